/- Rows of texts that a law is asked with: are they long? And the walk of the law that texts have numbers of their own. A lemma file: no statement of its own. -/
import Derived.Test.YtiachndgldjbfaaFwF
import Derived.Test.YtiachndgldjbfaaNamesB
import Derived.Test.YtiachndgldjbfaaRows0
import Derived.Test.YtiachndgldjbfaaW10
set_option linter.unusedSimpArgs false
set_option linter.unusedVariables false
set_option linter.unusedSectionVars false
namespace Go.Proofs.Try
open Go.Cs
open Go.RowKit (Below)
set_option maxRecDepth 100000
attribute [local irreducible] CCalls WLoop WScope

section
variable {M : Type} [Mem M] {w0 : World} {s : St M} {R : Value → St M → Prop}

theorem RowV.le {s s' : St M} {a : Option Addr} {T : List ByteArray} (h : RowV s a T) (hs : s.le s') : RowV s' a T := by
  rcases h with h | ⟨j, ss, h1, h2, h3, h4⟩
  · exact .inl h
  · exact .inr ⟨j, ss, h1, Nat.lt_of_lt_of_le h2 hs.1, by rw [hs.2 j h2]; exact h3, h4⟩
theorem RowV.keep {s s' : St M} {a : Option Addr} {T : List ByteArray} (h : RowV s a T) (hn : s.next ≤ s'.next) {lo : Nat} (hlo : s.next ≤ lo) (hs : ∀ b, b < lo → s'.at' b = s.at' b) : RowV s' a T :=
  h.le ⟨hn, fun b hb => hs b (by omega)⟩
theorem RowV.get {s : St M} {a : Option Addr} {T : List ByteArray} (h : RowV s a T) {k : Nat} (hk : k < T.length) : ∃ (j : Nat) (ss : List ByteArray), a = some ⟨j, 0, none⟩ ∧ s.at' j = some (.cells (ss.map Value.string) 9 false) ∧ (ss.map Value.string)[k]? = some (.string T[k]) := by
  rcases h with rfl | ⟨j, ss, h1, h2, h3, h4⟩
  · simp at hk
  · exact ⟨j, ss, h1, h3, by rw [List.getElem?_map, h4 k hk]; simp [hk]⟩

set_option maxHeartbeats 4000000 in
theorem long_spec {a : Option Addr} {T : List ByteArray} {c : Nat} (hT : RowV s a T) (h1 : R (.bool true) s) (h2 : T.length ≤ 101 → R (.bool false) s) : CCalls Try.prog w0 15 #[.slice a T.length c] s R := by
  refine wfun2 hmix ok15 (l := [.slice a T.length c]) func15 rfl ntmps15 results15 (by simp) ?_
  simp -implicitDefEqProofs only [↓Zd, (Zp), if_true, if_false, ne_eq, implies_true, forall_const, Nat.reduceEqDiff, reduceIte, reduceCtorEq, Int.reduceEq, Int.reduceNeg, Int.reduceLE, Int.reduceLT, Nat.reduceAdd, Nat.reduceLeDiff, Int.reduceToNat, Nat.reduceMul, Nat.reduceBEq, okPart, Value.cells, cut, okCell, cld2, underlying3, underlying4, underlying9, underlying5, underlying44, underlying0, be4, bn4]
  refine wloop_fix hmix [4, 5, 6, 7, 10, 11, 12, 13, 14, 15, 16, 17, 18, 19, 2, 8, 9, 3] (fun k env s' => ∃ i : Nat, k = 102 - i ∧ i ≤ 101 ∧ i ≤ T.length ∧ env 3 = .int .i64 i ∧ s' = s) 102 ?_ ?_
  · exact ⟨0, rfl, by omega, by omega, rfl, rfl⟩
  · rintro k env s' hF ⟨i, rfl, hi, hi2, e3, rfl⟩
    have e0 : env 0 = .slice a T.length c := by rw [hF 0 rfl]; rfl
    by_cases hlt : i < T.length
    · have hlt' : (i : Int) < (T.length : Int) := by omega
      have h0 : (0 : Int) ≤ (i : Int) := by omega
      have w7 : IntKind.i64.wrap ((i : Int) + 1) = ((i + 1 : Nat) : Int) := by rw [wrap_i64 (by omega)]; omega
      obtain ⟨j, ss, rfl, h9, hx⟩ := hT.get hlt
      by_cases hc : (100 : Int) < (i : Int)
      · simp -implicitDefEqProofs only [↓Zd, (Zp), if_true, if_false, ne_eq, implies_true, forall_const, Nat.reduceEqDiff, reduceIte, reduceCtorEq, Int.reduceEq, Int.reduceNeg, Int.reduceLE, Int.reduceLT, Nat.reduceAdd, Nat.reduceLeDiff, Int.reduceToNat, Nat.reduceMul, Nat.reduceBEq, okPart, Value.cells, cut, okCell, cld2, underlying3, underlying4, underlying9, underlying5, underlying44, underlying0, be4, bn4, underlying22, e0, e3, ord15, hlt', hc]
        exact h1
      · by_cases hc2 : (300 : Int) < (T[i].size : Int)
        · simp -implicitDefEqProofs only [↓Zd, (Zp), if_true, if_false, ne_eq, implies_true, forall_const, Nat.reduceEqDiff, reduceIte, reduceCtorEq, Int.reduceEq, Int.reduceNeg, Int.reduceLE, Int.reduceLT, Nat.reduceAdd, Nat.reduceLeDiff, Int.reduceToNat, Nat.reduceMul, Nat.reduceBEq, okPart, Value.cells, cut, okCell, cld2, underlying3, underlying4, underlying9, underlying5, underlying44, underlying0, be4, bn4, underlying22, e0, e3, ord15, hlt', hc, hc2, h9, ag22, ag9, sz9, h0, hx, Nat.mul_one, Nat.zero_add]
          exact h1
        · simp -implicitDefEqProofs only [↓Zd, (Zp), if_true, if_false, ne_eq, implies_true, forall_const, Nat.reduceEqDiff, reduceIte, reduceCtorEq, Int.reduceEq, Int.reduceNeg, Int.reduceLE, Int.reduceLT, Nat.reduceAdd, Nat.reduceLeDiff, Int.reduceToNat, Nat.reduceMul, Nat.reduceBEq, okPart, Value.cells, cut, okCell, cld2, underlying3, underlying4, underlying9, underlying5, underlying44, underlying0, be4, bn4, underlying22, e0, e3, ord15, hlt', hc, hc2, h9, ag22, ag9, sz9, h0, hx, w7, Nat.mul_one, Nat.zero_add]
          refine ⟨?_, 102 - (i + 1), by omega, i + 1, rfl, by omega, by omega, rfl⟩
          repeat (first | exact hF | refine Fix.upd (by decide) ?_)
    · have hlt' : ¬ (i : Int) < (T.length : Int) := by omega
      simp -implicitDefEqProofs only [↓Zd, (Zp), if_true, if_false, ne_eq, implies_true, forall_const, Nat.reduceEqDiff, reduceIte, reduceCtorEq, Int.reduceEq, Int.reduceNeg, Int.reduceLE, Int.reduceLT, Nat.reduceAdd, Nat.reduceLeDiff, Int.reduceToNat, Nat.reduceMul, Nat.reduceBEq, okPart, Value.cells, cut, okCell, cld2, underlying3, underlying4, underlying9, underlying5, underlying44, underlying0, be4, bn4, underlying22, e0, e3, hlt']
      exact h2 (by omega)
end
end Go.Proofs.Try
