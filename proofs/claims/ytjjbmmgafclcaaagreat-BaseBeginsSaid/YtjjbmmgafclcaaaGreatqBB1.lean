/- The form of a program's codes: small walks. A lemma file: no statement of its own. -/
import Derived.Test.YtjjbmmgafclcaaaGreatqFwF
import Derived.Test.YtjjbmmgafclcaaaGreatqRowP
set_option linter.unusedSimpArgs false
set_option linter.unusedVariables false
set_option linter.unusedSectionVars false
namespace Go.Proofs.Tryz
open Go.Cs
open Go.RowKit (Below)
set_option maxRecDepth 100000
attribute [local irreducible] CCalls WLoop WScope CRound WRange
set_option linter.defProp false in
def BBx := (And.intro (And.intro (And.intro (And.intro (And.intro (And.intro @underlying3 (And.intro @sz3 @is3)) (And.intro (And.intro @ce3 @ag3) (And.intro @ze3 @underlying4))) (And.intro (And.intro @sz4 (And.intro @is4 @ce4)) (And.intro (And.intro @ag4 @ze4) (And.intro @be4 @bn4)))) (And.intro (And.intro (And.intro @underlying9 (And.intro @sz9 @is9)) (And.intro (And.intro @ce9 @ag9) (And.intro @ze9 @underlying27))) (And.intro (And.intro (And.intro @sz27 @is27) (And.intro @ce27 @ag27)) (And.intro (And.intro @ze27 @fa27x0) (And.intro @fa27x1 @fa27x2))))) (And.intro (And.intro (And.intro (And.intro @underlying28 (And.intro @sz28 @is28)) (And.intro (And.intro @ce28 @ag28) (And.intro @ze28 @underlying41))) (And.intro (And.intro (And.intro @sz41 @is41) (And.intro @ce41 @ag41)) (And.intro (And.intro @ze41 @fa41x0) (And.intro @fa41x1 @fa41x2)))) (And.intro (And.intro (And.intro @underlying36 (And.intro @sz36 @is36)) (And.intro (And.intro @ce36 @ag36) (And.intro @ze36 @underlying38))) (And.intro (And.intro (And.intro @sz38 @is38) (And.intro @ce38 @ag38)) (And.intro (And.intro @ze38 @fa38x0) (And.intro @fa38x1 @fa38x2)))))) (And.intro (And.intro (And.intro (And.intro (And.intro @fa38x3 (And.intro @fa38x4 @underlying23)) (And.intro (And.intro @sz23 @is23) (And.intro @ce23 @ag23))) (And.intro (And.intro (And.intro @ze23 @underlying25) (And.intro @sz25 @is25)) (And.intro (And.intro @ce25 @ag25) (And.intro @ze25 @fa25x0)))) (And.intro (And.intro (And.intro @fa25x1 (And.intro @fa25x2 @underlying54)) (And.intro (And.intro @sz54 @is54) (And.intro @ce54 @ag54))) (And.intro (And.intro (And.intro @ze54 @underlying22) (And.intro @sz22 @is22)) (And.intro (And.intro @ce22 @ag22) (And.intro @ze22 @underlying66))))) (And.intro (And.intro (And.intro (And.intro @sz66 (And.intro @is66 @ce66)) (And.intro (And.intro @ag66 @underlying89) (And.intro @sz89 @is89))) (And.intro (And.intro (And.intro @ce89 @ag89) (And.intro @underlying55 @sz55)) (And.intro (And.intro @is55 @ce55) (And.intro @ag55 @underlying33)))) (And.intro (And.intro (And.intro @sz33 (And.intro @is33 @ce33)) (And.intro (And.intro @ag33 @ze33) (And.intro @fa33x0 @fa33x1))) (And.intro (And.intro (And.intro @fa33x2 @fa33x3) (And.intro @fa33x4 @underlying34)) (And.intro (And.intro @sz34 @is34) (And.intro @ce34 @ag34)))))))
theorem rowWords : crow Tryz.prog 22 7 #[(0, .string ⟨#[99, 111, 117, 110, 116]⟩), (1, .string ⟨#[107, 101, 121]⟩), (2, .string ⟨#[104, 97, 115]⟩), (3, .string ⟨#[112, 114, 111, 116, 111]⟩), (4, .string ⟨#[115, 101, 116, 112, 114, 111, 116, 111]⟩), (5, .string ⟨#[108, 101, 110]⟩), (6, .string ⟨#[115, 116, 114]⟩)] = some (.cells [.string ⟨#[99, 111, 117, 110, 116]⟩, .string ⟨#[107, 101, 121]⟩, .string ⟨#[104, 97, 115]⟩, .string ⟨#[112, 114, 111, 116, 111]⟩, .string ⟨#[115, 101, 116, 112, 114, 111, 116, 111]⟩, .string ⟨#[108, 101, 110]⟩, .string ⟨#[115, 116, 114]⟩] 9 true) := by kernel_rfl
section
variable {M : Type} [Mem M] {w0 : World} {s : St M} {R : Value → St M → Prop}
theorem goes_spec {op : Int} (hR : ∀ b : Bool, (b = true ↔ 22 ≤ op ∧ op ≤ 25) → R (.bool b) s) : CCalls Tryz.prog w0 13 #[.int .i64 op] s R := by
  refine wfun2 hmix ok13 (l := [.int .i64 op]) func13 rfl ntmps13 results13 (by simp) ?_
  by_cases h1 : 22 ≤ op
  · by_cases h2 : op ≤ 25
    · simp -implicitDefEqProofs only [↓Zd, (Zp), if_true, if_false, ne_eq, implies_true, forall_const, Nat.reduceEqDiff, reduceIte, reduceCtorEq, Int.reduceEq, Int.reduceNeg, Int.reduceLE, Int.reduceLT, Nat.reduceAdd, Nat.reduceLeDiff, Int.reduceToNat, Nat.reduceMul, Nat.reduceBEq, okPart, Value.cells, cut, okCell, cld2, (BBx), vA, h1, h2, decide_true]
      exact hR true ⟨fun _ => ⟨h1, h2⟩, fun _ => rfl⟩
    · simp -implicitDefEqProofs only [↓Zd, (Zp), if_true, if_false, ne_eq, implies_true, forall_const, Nat.reduceEqDiff, reduceIte, reduceCtorEq, Int.reduceEq, Int.reduceNeg, Int.reduceLE, Int.reduceLT, Nat.reduceAdd, Nat.reduceLeDiff, Int.reduceToNat, Nat.reduceMul, Nat.reduceBEq, okPart, Value.cells, cut, okCell, cld2, (BBx), vA, h1, h2, decide_true, decide_false]
      exact hR false ⟨fun h => Bool.noConfusion h, fun h => absurd h.2 h2⟩
  · simp -implicitDefEqProofs only [↓Zd, (Zp), if_true, if_false, ne_eq, implies_true, forall_const, Nat.reduceEqDiff, reduceIte, reduceCtorEq, Int.reduceEq, Int.reduceNeg, Int.reduceLE, Int.reduceLT, Nat.reduceAdd, Nat.reduceLeDiff, Int.reduceToNat, Nat.reduceMul, Nat.reduceBEq, okPart, Value.cells, cut, okCell, cld2, (BBx), vA, h1, decide_false]
    exact hR false ⟨fun h => Bool.noConfusion h, fun h => absurd h.1 h1⟩
theorem built_spec {a : Int} (hR : ∀ s' x n, s.le s' → 0 ≤ n → n ≤ 2 → R (.tuple #[.string x, .int .i64 n]) s') : CCalls Tryz.prog w0 34 #[.int .i64 a] s R := by
  refine wfun2 hmix ok34 (l := [.int .i64 a]) func34 rfl ntmps34 results34 (by simp) ?_
  have hl : ∀ C : Blk, s.le (s.new C) := fun C => St.le_new (St.le_refl _)
  rcases (show a < 1 ∨ 7 < a ∨ a = 1 ∨ a = 2 ∨ a = 3 ∨ a = 4 ∨ a = 5 ∨ a = 6 ∨ a = 7 by omega) with h | h | rfl | rfl | rfl | rfl | rfl | rfl | rfl
  · simp -implicitDefEqProofs only [↓Zd, (Zp), if_true, if_false, ne_eq, implies_true, forall_const, Nat.reduceEqDiff, reduceIte, reduceCtorEq, Int.reduceEq, Int.reduceNeg, Int.reduceLE, Int.reduceLT, Nat.reduceAdd, Nat.reduceLeDiff, Int.reduceToNat, Nat.reduceMul, Nat.reduceBEq, okPart, Value.cells, cut, okCell, cld2, (BBx), vA, rowWords, h, decide_true]
    exact hR _ _ _ (hl _) (by omega) (by omega)
  · have h1 : ¬ a < 1 := by omega
    simp -implicitDefEqProofs only [↓Zd, (Zp), if_true, if_false, ne_eq, implies_true, forall_const, Nat.reduceEqDiff, reduceIte, reduceCtorEq, Int.reduceEq, Int.reduceNeg, Int.reduceLE, Int.reduceLT, Nat.reduceAdd, Nat.reduceLeDiff, Int.reduceToNat, Nat.reduceMul, Nat.reduceBEq, okPart, Value.cells, cut, okCell, cld2, (BBx), vA, rowWords, h, h1, decide_true, decide_false]
    exact hR _ _ _ (hl _) (by omega) (by omega)
  all_goals
    have w0 : IntKind.i64.wrap (1 - 1) = 0 := by decide
    have w1 : IntKind.i64.wrap (2 - 1) = 1 := by decide
    have w2 : IntKind.i64.wrap (3 - 1) = 2 := by decide
    have w3 : IntKind.i64.wrap (4 - 1) = 3 := by decide
    have w4 : IntKind.i64.wrap (5 - 1) = 4 := by decide
    have w5 : IntKind.i64.wrap (6 - 1) = 5 := by decide
    have w6 : IntKind.i64.wrap (7 - 1) = 6 := by decide
    have b0 : (0 : Int) < ((7 : Nat) : Int) := by omega
    have b1 : (1 : Int) < ((7 : Nat) : Int) := by omega
    have b2 : (2 : Int) < ((7 : Nat) : Int) := by omega
    have b3 : (3 : Int) < ((7 : Nat) : Int) := by omega
    have b4 : (4 : Int) < ((7 : Nat) : Int) := by omega
    have b5 : (5 : Int) < ((7 : Nat) : Int) := by omega
    have b6 : (6 : Int) < ((7 : Nat) : Int) := by omega
    simp -implicitDefEqProofs only [↓Zd, (Zp), if_true, if_false, ne_eq, implies_true, forall_const, Nat.reduceEqDiff, reduceIte, reduceCtorEq, Int.reduceEq, Int.reduceNeg, Int.reduceLE, Int.reduceLT, Nat.reduceAdd, Nat.reduceLeDiff, Int.reduceToNat, Nat.reduceMul, Nat.reduceBEq, okPart, Value.cells, cut, okCell, cld2, (BBx), vA, rowWords, b0, b1, b2, b3, b4, b5, b6, Int.toNat_zero, Int.toNat_one, List.getElem?_cons_zero, List.getElem?_cons_succ, w0, w1, w2, w3, w4, w5, w6, decide_true, decide_false]
    exact hR _ _ _ (hl _) (by omega) (by omega)
set_option maxHeartbeats 4000000 in
theorem effect_spec {op a b : Int} (hR : ∀ s' x y, s.le s' → 0 ≤ x → x ≤ 8 → 0 ≤ y → y ≤ 2 → R (.tuple #[.int .i64 x, .int .i64 y]) s') : CCalls Tryz.prog w0 20 #[.agg #[.int .i64 op, .int .i64 a, .int .i64 b]] s R := by
  refine wfun2 hmix ok20 (l := [.agg #[.int .i64 op, .int .i64 a, .int .i64 b]]) func20 rfl ntmps20 results20 (by simp) ?_
  have hl : s.le (s.new (.cells [.int .i64 op, .int .i64 a, .int .i64 b] 41 true)) := St.le_new (St.le_refl _)
  simp -implicitDefEqProofs only [↓Zd, (Zp), if_true, if_false, ne_eq, implies_true, forall_const, Nat.reduceEqDiff, reduceIte, reduceCtorEq, Int.reduceEq, Int.reduceNeg, Int.reduceLE, Int.reduceLT, Nat.reduceAdd, Nat.reduceLeDiff, Int.reduceToNat, Nat.reduceMul, Nat.reduceBEq, okPart, Value.cells, cut, okCell, cld2, (BBx), vA]
  repeat' (first | (refine c2_split (fun h => ?_) (fun h => ?_) <;> simp -implicitDefEqProofs only [↓Zd, (Zp), if_true, if_false, ne_eq, implies_true, forall_const, Nat.reduceEqDiff, reduceIte, reduceCtorEq, Int.reduceEq, Int.reduceNeg, Int.reduceLE, Int.reduceLT, Nat.reduceAdd, Nat.reduceLeDiff, Int.reduceToNat, Nat.reduceMul, Nat.reduceBEq, okPart, Value.cells, cut, okCell, cld2, (BBx), vA, co34]) | (refine g3_split (fun h => ?_) (fun h => ?_) <;> simp -implicitDefEqProofs only [↓Zd, (Zp), if_true, if_false, ne_eq, implies_true, forall_const, Nat.reduceEqDiff, reduceIte, reduceCtorEq, Int.reduceEq, Int.reduceNeg, Int.reduceLE, Int.reduceLT, Nat.reduceAdd, Nat.reduceLeDiff, Int.reduceToNat, Nat.reduceMul, Nat.reduceBEq, okPart, Value.cells, cut, okCell, cld2, (BBx), vA, co34]))
  all_goals first
    | exact hR _ _ _ hl (by omega) (by omega) (by omega) (by omega)
    | (simp only [decide_eq_true_eq] at *
       rw [wrap_i64 (by omega)]
       exact hR _ _ _ hl (by omega) (by omega) (by omega) (by omega))
    | (refine built_spec fun s2 x n l2 h1 h2 => ?_
       by_cases h3 : 0 < n
       · simp -implicitDefEqProofs only [↓Zd, (Zp), if_true, if_false, ne_eq, implies_true, forall_const, Nat.reduceEqDiff, reduceIte, reduceCtorEq, Int.reduceEq, Int.reduceNeg, Int.reduceLE, Int.reduceLT, Nat.reduceAdd, Nat.reduceLeDiff, Int.reduceToNat, Nat.reduceMul, Nat.reduceBEq, okPart, Value.cells, cut, okCell, cld2, (BBx), vA, h3, decide_true]
         exact hR _ _ _ (St.le_trans hl l2) (by omega) (by omega) (by omega) (by omega)
       · simp -implicitDefEqProofs only [↓Zd, (Zp), if_true, if_false, ne_eq, implies_true, forall_const, Nat.reduceEqDiff, reduceIte, reduceCtorEq, Int.reduceEq, Int.reduceNeg, Int.reduceLE, Int.reduceLT, Nat.reduceAdd, Nat.reduceLeDiff, Int.reduceToNat, Nat.reduceMul, Nat.reduceBEq, okPart, Value.cells, cut, okCell, cld2, (BBx), vA, h3, decide_false]
         exact hR _ _ _ (St.le_trans hl l2) (by omega) (by omega) (by omega) (by omega))
end
end Go.Proofs.Tryz
