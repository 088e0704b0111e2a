/- The walk of the digits of a number. A lemma file: no statement of its own. -/
import Derived.Test.YtnkichmojbanlaaqFwF
import Derived.Test.YtnkichmojbanlaaqDig0
import Derived.Test.YtnkichmojbanlaaqFacts
import Derived.Test.YtnkichmojbanlaaqTypes
set_option linter.unusedSimpArgs false
set_option linter.unusedVariables false
set_option linter.unusedSectionVars false
namespace Go.Proofs.Try
open Go.Cs
open Go.RowKit (Below)
set_option maxRecDepth 100000
attribute [local irreducible] CCalls WLoop WScope
section
variable {M : Type} [Mem M] {w0 : World} {s : St M} {R : Value → St M → Prop}
set_option maxHeartbeats 2000000 in
theorem digits_spec {n : Int} (hn : -9223372036854775808 ≤ n ∧ n ≤ 9223372036854775807) (h : ∀ s', s.le s' → R (.string (digS n)) s') : CCalls Try.prog w0 47 #[.int .i64 n] s R := by
  refine wfun2 hmix ok47 (l := [.int .i64 n]) func47 rfl ntmps47 results47 (by simp) ?_
  by_cases hneg : n < 0
  all_goals
    simp -implicitDefEqProofs only [↓Zd, (Zp), if_true, if_false, ne_eq, implies_true, forall_const, Nat.reduceEqDiff, reduceIte, reduceCtorEq, Int.reduceEq, Int.reduceNeg, Int.reduceLE, Int.reduceLT, Nat.reduceAdd, Nat.reduceLeDiff, Int.reduceToNat, Nat.reduceMul, Nat.reduceBEq, okPart, Value.cells, cut, okCell, cld2, underlying3, underlying4, underlying156, underlying9, underlying5, underlying155, hneg, ze155]
    refine wloop_fix hmix [12, 13, 4, 14, 15, 16, 17, 18, 19, 20, 21, 5, 22, 23] (fun k env s' => ∃ (at' left : Nat) (vs : List Value) (l : List UInt8), k = at' ∧ at' ≤ 20 ∧ env 4 = .int .i64 at' ∧ env 5 = .int .u64 left ∧
      s.le s' ∧ s'.at' s.next = some (.cells vs 155 true) ∧ vs.length = 20 ∧ vs.drop at' = l.map toV ∧ decL n.natAbs = decL left ++ l ∧ (1 ≤ left ∨ at' = 20) ∧ left < 10 ^ (at' - if n < 0 then 1 else 0) ∧ left ≤ 9223372036854775808) 20 ?_ ?_
    · refine ⟨20, n.natAbs, _, [], rfl, by omega, ?_, ?_, ?_, by simp only [St.at_new, if_true]; rfl, ?_, ?_, ?_, ?_, ?_, by omega⟩
      · rfl
      · show Value.int IntKind.u64 _ = _
        congr 1
        first
          | (rw [wrap_u64_negneg (by omega)]; omega)
          | (rw [wrap_u64 (by omega)]; omega)
      · exact St.le_new (St.le_refl s)
      · rfl
      · rfl
      · simp
      · simp
      · split <;> simp <;> omega
    · rintro k env s' hF ⟨at', left, vs, l, rfl, h20, e4, e5, hs, hb, hl, hd, hN, h1, hp, hl64⟩
      have e3 : env 3 = .pointer (some ⟨s.next, 0, none⟩) := by rw [hF 3 rfl]; rfl
      have e0 : env 0 = .int .i64 n := by rw [hF 0 rfl]; rfl
      obtain ⟨j, rfl⟩ : ∃ j, k = j + 1 := by
        cases k with
        | zero =>
          have : (0 - if n < 0 then 1 else 0) = 0 := by omega
          rw [this] at hp
          omega
        | succ j => exact ⟨j, rfl⟩
      have w1 : IntKind.i64.wrap (((j + 1 : Nat) : Int) - 1) = (j : Int) := by rw [wrap_i64 (by omega)]; omega
      have w2 : (left : Int).tmod 10 = ((left % 10 : Nat) : Int) := by rw [Int.tmod_eq_emod_of_nonneg (by omega)]; omega
      have w3 : IntKind.u8.wrap ((left % 10 : Nat) : Int) = ((left % 10 : Nat) : Int) := wrap_u8 (by omega)
      have w4 : IntKind.u8.wrap (48 + ((left % 10 : Nat) : Int)) = ((48 + left % 10 : Nat) : Int) := by rw [wrap_u8 (by omega)]; omega
      have w5 : (left : Int).tdiv 10 = ((left / 10 : Nat) : Int) := by rw [Int.tdiv_eq_ediv_of_nonneg (by omega)]; omega
      have w6 : IntKind.u64.wrap ((left / 10 : Nat) : Int) = ((left / 10 : Nat) : Int) := wrap_u64 (by omega)
      have hj : (0 : Int) ≤ (j : Int) ∧ (j : Int) < ((20 : Nat) : Int) := by omega
      have hj' : j + 1 ≤ vs.length := by omega
      simp -implicitDefEqProofs only [↓Zd, (Zp), if_true, if_false, ne_eq, implies_true, forall_const, Nat.reduceEqDiff, reduceIte, reduceCtorEq, Int.reduceEq, Int.reduceNeg, Int.reduceLE, Int.reduceLT, Nat.reduceAdd, Nat.reduceLeDiff, Int.reduceToNat, Nat.reduceMul, Nat.reduceBEq, okPart, Value.cells, cut, okCell, cld2, underlying3, underlying4, underlying156, underlying9, underlying5, underlying155, hneg, e0, e3, e4, e5, w1, w2, w3, w4, w5, w6, hb, sz5, hj, hj']
      refine c2_split (fun hz => ?_) (fun hz => ?_)
      · have hz' : left < 10 := by simp at hz; omega
        rw [decL_lt hz'] at hN
        have hvs : (vs.set j (.int .u8 ((48 + left % 10 : Nat) : Int))).drop j = (UInt8.ofNat (48 + left) :: l).map toV := by
          rw [drop_set_self (by omega), hd, List.map_cons, toV_ofNat (by omega), Nat.mod_eq_of_lt hz']
        simp only [List.cons_append, List.nil_append] at hN
        have hr : ∀ (i : Nat), i < 20 → cslice Try.prog 155 (.pointer (some ⟨s.next, 0, none⟩)) (some (.int .i64 (i : Int))) (some (.int .i64 20)) (some (.int .i64 20)) = some (.slice (some ⟨s.next, i, none⟩) (20 - i) (20 - i)) := by
          intro i hi
          have := sl_arr3 (k1 := .i64) (k2 := .i64) (k3 := .i64) (a := ⟨s.next, 0, none⟩) (l := i) (h := 20) (m := 20) underlying155 sz5 (by omega) (by omega) (by omega) (by simp [UNK])
          rw [if_neg (by omega), add_mk, Nat.mul_one, Nat.zero_add] at this
          exact this
        rcases (show n < 0 ∨ 0 ≤ n by omega) with hlt | hge
        · first
          | exact absurd hlt hneg
          | (have hj1 : 1 ≤ j := by
               rcases Nat.eq_zero_or_pos j with h0 | h0
               · subst h0; simp only [hneg, if_true] at hp; omega
               · exact h0
             obtain ⟨i, rfl⟩ : ∃ i, j = i + 1 := ⟨j - 1, by omega⟩
             have w7 : IntKind.i64.wrap (((i + 1 : Nat) : Int) - 1) = (i : Int) := by rw [wrap_i64 (by omega)]; omega
             have hi : (0 : Int) ≤ (i : Int) ∧ (i : Int) < ((20 : Nat) : Int) := by omega
             have hi' : i + 1 ≤ (vs.set (i + 1) (.int .u8 ((48 + left % 10 : Nat) : Int))).length := by simp; omega
             have hsl := hr i (by omega)
             have hbs := cbs2_drop (e := 155) (w := true) (vs := (vs.set (i + 1) (.int .u8 ((48 + left % 10 : Nat) : Int))).set i (.int .u8 45)) (j := i) (N := 20) (l := 45 :: UInt8.ofNat (48 + left) :: l) (by simp [hl]) (by omega) (by
               rw [drop_set_self (by simp; omega), hvs]; rfl)
             simp -implicitDefEqProofs only [↓Zd, (Zp), if_true, if_false, ne_eq, implies_true, forall_const, Nat.reduceEqDiff, reduceIte, reduceCtorEq, Int.reduceEq, Int.reduceNeg, Int.reduceLE, Int.reduceLT, Nat.reduceAdd, Nat.reduceLeDiff, Int.reduceToNat, Nat.reduceMul, Nat.reduceBEq, okPart, Value.cells, cut, okCell, cld2, underlying3, underlying4, underlying156, underlying9, underlying5, underlying155, underlying110, hneg, e0, e3, w7, hb, sz5, hi, hi', hsl, hbs, ↓o_bs underlying110 underlying9 underlying5]
             have e : digS n = ⟨(45 :: UInt8.ofNat (48 + left) :: l).toArray⟩ := by simp [digS, digL, hneg, hN]
             rw [← e]
             exact h _ (St.le_put (St.le_put hs (Nat.le_refl _)) (Nat.le_refl _)))
        · first
          | exact absurd hneg (Int.not_lt.2 hge)
          | (have hsl := hr j (by omega)
             have hbs := cbs2_drop (e := 155) (w := true) (vs := vs.set j (.int .u8 ((48 + left % 10 : Nat) : Int))) (j := j) (N := 20) (l := UInt8.ofNat (48 + left) :: l) (by simp [hl]) (by omega) hvs
             simp -implicitDefEqProofs only [↓Zd, (Zp), if_true, if_false, ne_eq, implies_true, forall_const, Nat.reduceEqDiff, reduceIte, reduceCtorEq, Int.reduceEq, Int.reduceNeg, Int.reduceLE, Int.reduceLT, Nat.reduceAdd, Nat.reduceLeDiff, Int.reduceToNat, Nat.reduceMul, Nat.reduceBEq, okPart, Value.cells, cut, okCell, cld2, underlying3, underlying4, underlying156, underlying9, underlying5, underlying155, underlying110, hneg, e0, e3, hb, sz5, hsl, hbs, ↓o_bs underlying110 underlying9 underlying5]
             have e : digS n = ⟨(UInt8.ofNat (48 + left) :: l).toArray⟩ := by simp [digS, digL, hneg, hN]
             rw [← e]
             exact h _ (St.le_put hs (Nat.le_refl _)))
      · have hz' : 10 ≤ left := by simp at hz; omega
        simp -implicitDefEqProofs only [↓Zd, (Zp), if_true, if_false, ne_eq, implies_true, forall_const, Nat.reduceEqDiff, reduceIte, reduceCtorEq, Int.reduceEq, Int.reduceNeg, Int.reduceLE, Int.reduceLT, Nat.reduceAdd, Nat.reduceLeDiff, Int.reduceToNat, Nat.reduceMul, Nat.reduceBEq, okPart, Value.cells, cut, okCell, cld2]
        refine ⟨?_, j, by omega, j, left / 10, _, UInt8.ofNat (48 + left % 10) :: l, rfl, by omega, rfl, rfl, St.le_put hs (Nat.le_refl _), rfl, ?_, ?_, ?_, ?_, ?_, ?_⟩
        · repeat (first | exact hF | refine Fix.upd (by decide) ?_)
        · simp [hl]
        · rw [drop_set_self (by omega), hd, List.map_cons, toV_ofNat (by omega)]
        · rw [hN, decL_ge hz', List.append_assoc]; rfl
        · left; omega
        · rw [Nat.div_lt_iff_lt_mul (by omega)]
          refine Nat.lt_of_lt_of_le hp ?_
          rw [← Nat.pow_succ]
          exact Nat.pow_le_pow_right (by omega) (by omega)
        · omega
end
end Go.Proofs.Try
