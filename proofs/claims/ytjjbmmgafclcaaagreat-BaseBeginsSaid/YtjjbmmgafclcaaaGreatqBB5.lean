/- The form of a program's codes: whether a code may be. A lemma file: no statement of its own. -/
import Derived.Test.YtjjbmmgafclcaaaGreatqFwF
import Derived.Test.YtjjbmmgafclcaaaGreatqBB3
import Derived.Test.YtjjbmmgafclcaaaGreatqBB4
set_option linter.unusedSimpArgs false
set_option linter.unusedVariables false
set_option linter.unusedSectionVars false
namespace Go.Proofs.Tryz
open Go.Cs
open Go.RowKit (Below)
set_option maxRecDepth 100000
attribute [local irreducible] CCalls WLoop WScope CRound WRange
section
variable {M : Type} [Mem M] {w0 : World} {s : St M} {R : Value → St M → Prop}
set_option maxHeartbeats 16000000 in
theorem right_spec {g : Int} {pl cl : Option Addr} {cpp ccp f : Nat} {pool : List ByteArray} {C : List CodeV} {c : CodeV} (hP : PAt s pl pool cl C) (hf : C[f]? = some c) (hf2 : f ≤ 100)
    (hR : ∀ s' b, s.le s' → (b = true → 0 ≤ c.p ∧ c.p ≤ c.l ∧ c.l ≤ 24) → R (.bool b) s') :
    CCalls Tryz.prog w0 8 #[.agg #[.int .i64 g, .slice pl pool.length cpp, .slice cl C.length ccp], .int .i64 (f : Int)] s R := by
  refine wfun2 hmix ok8 (l := [.agg #[.int .i64 g, .slice pl pool.length cpp, .slice cl C.length ccp], .int .i64 (f : Int)]) func8 rfl ntmps8 results8 (by simp) ?_
  have hfl : f < C.length := (List.getElem?_eq_some_iff.1 hf).1
  have hmem := List.mem_of_getElem? hf
  have hc := hP.ok c hmem
  have hi := hP.ins c hmem
  rcases hP.codes with h0 | ⟨jc, n, cc, rfl, hjc, hcb, hcl, hCn, hcc⟩
  · rw [h0] at hfl; cases hfl
  obtain ⟨d1, d2⟩ := rowsN_cut hcl (n := n) (i := f) (by omega)
  rw [hcc f c hf] at d2
  have d2 : List.take 5 (List.drop (f * 5) (rowsN cc n)) = [.int .i64 c.p, .int .i64 c.l, .int .i64 c.s, .int .i64 c.d, .slice c.ad c.ins.length c.cp] := d2
  have hff : (0 : Int) ≤ (f : Int) ∧ (f : Int) < (C.length : Int) := by omega
  have hjn : ¬ jc = s.next := by omega
  have hz := ze38
  have l1 : s.le (((s.new (.cells [.int .i64 g, .slice pl pool.length cpp, .slice (some ⟨jc, 0, none⟩) C.length ccp] 25 true)).new (.cells [.int .i64 0, .int .i64 0, .int .i64 0, .int .i64 0, .slice none 0 0] 38 true)).put (s.next + 1) (.cells [.int .i64 c.p, .int .i64 c.l, .int .i64 c.s, .int .i64 c.d, .slice c.ad c.ins.length c.cp] 38 true)) := (by repeat (first | exact St.le_refl _ | assumption | refine St.le_new ?_ | refine St.le_put ?_ (by first | omega | (simp only [St.next_new, St.next_put, St.next_kill]; omega)) | refine St.le_trans ?_ (by assumption)))
  have hno : ∀ s', s.le s' → R (.bool false) s' := fun s' h => hR s' false h (fun h => Bool.noConfusion h)
  by_cases r0 : c.p < 0
  · simp -implicitDefEqProofs only [↓Zd, (Zp), if_true, if_false, ne_eq, implies_true, forall_const, Nat.reduceEqDiff, reduceIte, reduceCtorEq, Int.reduceEq, Int.reduceNeg, Int.reduceLE, Int.reduceLT, Nat.reduceAdd, Nat.reduceLeDiff, Int.reduceToNat, Nat.reduceMul, Nat.reduceBEq, okPart, Value.cells, cut, okCell, cld2, (BBx), vA, hcb, hjn, d1, d2, hff, Nat.add_zero, Nat.zero_add, decide_true, decide_false, hz, r0]
    exact hno _ l1
  by_cases r1 : 6 < c.p
  · simp -implicitDefEqProofs only [↓Zd, (Zp), if_true, if_false, ne_eq, implies_true, forall_const, Nat.reduceEqDiff, reduceIte, reduceCtorEq, Int.reduceEq, Int.reduceNeg, Int.reduceLE, Int.reduceLT, Nat.reduceAdd, Nat.reduceLeDiff, Int.reduceToNat, Nat.reduceMul, Nat.reduceBEq, okPart, Value.cells, cut, okCell, cld2, (BBx), vA, hcb, hjn, d1, d2, hff, Nat.add_zero, Nat.zero_add, decide_true, decide_false, hz, r0, r1]
    exact hno _ l1
  by_cases r2 : c.l < c.p
  · simp -implicitDefEqProofs only [↓Zd, (Zp), if_true, if_false, ne_eq, implies_true, forall_const, Nat.reduceEqDiff, reduceIte, reduceCtorEq, Int.reduceEq, Int.reduceNeg, Int.reduceLE, Int.reduceLT, Nat.reduceAdd, Nat.reduceLeDiff, Int.reduceToNat, Nat.reduceMul, Nat.reduceBEq, okPart, Value.cells, cut, okCell, cld2, (BBx), vA, hcb, hjn, d1, d2, hff, Nat.add_zero, Nat.zero_add, decide_true, decide_false, hz, r0, r1, r2]
    exact hno _ l1
  by_cases r3 : 24 < c.l
  · simp -implicitDefEqProofs only [↓Zd, (Zp), if_true, if_false, ne_eq, implies_true, forall_const, Nat.reduceEqDiff, reduceIte, reduceCtorEq, Int.reduceEq, Int.reduceNeg, Int.reduceLE, Int.reduceLT, Nat.reduceAdd, Nat.reduceLeDiff, Int.reduceToNat, Nat.reduceMul, Nat.reduceBEq, okPart, Value.cells, cut, okCell, cld2, (BBx), vA, hcb, hjn, d1, d2, hff, Nat.add_zero, Nat.zero_add, decide_true, decide_false, hz, r0, r1, r2, r3]
    exact hno _ l1
  by_cases r4 : c.s < 0
  · simp -implicitDefEqProofs only [↓Zd, (Zp), if_true, if_false, ne_eq, implies_true, forall_const, Nat.reduceEqDiff, reduceIte, reduceCtorEq, Int.reduceEq, Int.reduceNeg, Int.reduceLE, Int.reduceLT, Nat.reduceAdd, Nat.reduceLeDiff, Int.reduceToNat, Nat.reduceMul, Nat.reduceBEq, okPart, Value.cells, cut, okCell, cld2, (BBx), vA, hcb, hjn, d1, d2, hff, Nat.add_zero, Nat.zero_add, decide_true, decide_false, hz, r0, r1, r2, r3, r4]
    exact hno _ l1
  by_cases r5 : 4000 < c.s
  · simp -implicitDefEqProofs only [↓Zd, (Zp), if_true, if_false, ne_eq, implies_true, forall_const, Nat.reduceEqDiff, reduceIte, reduceCtorEq, Int.reduceEq, Int.reduceNeg, Int.reduceLE, Int.reduceLT, Nat.reduceAdd, Nat.reduceLeDiff, Int.reduceToNat, Nat.reduceMul, Nat.reduceBEq, okPart, Value.cells, cut, okCell, cld2, (BBx), vA, hcb, hjn, d1, d2, hff, Nat.add_zero, Nat.zero_add, decide_true, decide_false, hz, r0, r1, r2, r3, r4, r5]
    exact hno _ l1
  by_cases r6 : c.d < 0
  · simp -implicitDefEqProofs only [↓Zd, (Zp), if_true, if_false, ne_eq, implies_true, forall_const, Nat.reduceEqDiff, reduceIte, reduceCtorEq, Int.reduceEq, Int.reduceNeg, Int.reduceLE, Int.reduceLT, Nat.reduceAdd, Nat.reduceLeDiff, Int.reduceToNat, Nat.reduceMul, Nat.reduceBEq, okPart, Value.cells, cut, okCell, cld2, (BBx), vA, hcb, hjn, d1, d2, hff, Nat.add_zero, Nat.zero_add, decide_true, decide_false, hz, r0, r1, r2, r3, r4, r5, r6]
    exact hno _ l1
  by_cases r7 : 64 < c.d
  · simp -implicitDefEqProofs only [↓Zd, (Zp), if_true, if_false, ne_eq, implies_true, forall_const, Nat.reduceEqDiff, reduceIte, reduceCtorEq, Int.reduceEq, Int.reduceNeg, Int.reduceLE, Int.reduceLT, Nat.reduceAdd, Nat.reduceLeDiff, Int.reduceToNat, Nat.reduceMul, Nat.reduceBEq, okPart, Value.cells, cut, okCell, cld2, (BBx), vA, hcb, hjn, d1, d2, hff, Nat.add_zero, Nat.zero_add, decide_true, decide_false, hz, r0, r1, r2, r3, r4, r5, r6, r7]
    exact hno _ l1
  by_cases r8 : (c.ins.length : Int) < 1
  · simp -implicitDefEqProofs only [↓Zd, (Zp), if_true, if_false, ne_eq, implies_true, forall_const, Nat.reduceEqDiff, reduceIte, reduceCtorEq, Int.reduceEq, Int.reduceNeg, Int.reduceLE, Int.reduceLT, Nat.reduceAdd, Nat.reduceLeDiff, Int.reduceToNat, Nat.reduceMul, Nat.reduceBEq, okPart, Value.cells, cut, okCell, cld2, (BBx), vA, hcb, hjn, d1, d2, hff, Nat.add_zero, Nat.zero_add, decide_true, decide_false, hz, r0, r1, r2, r3, r4, r5, r6, r7, r8]
    exact hno _ l1
  by_cases r9 : 4000 < (c.ins.length : Int)
  · simp -implicitDefEqProofs only [↓Zd, (Zp), if_true, if_false, ne_eq, implies_true, forall_const, Nat.reduceEqDiff, reduceIte, reduceCtorEq, Int.reduceEq, Int.reduceNeg, Int.reduceLE, Int.reduceLT, Nat.reduceAdd, Nat.reduceLeDiff, Int.reduceToNat, Nat.reduceMul, Nat.reduceBEq, okPart, Value.cells, cut, okCell, cld2, (BBx), vA, hcb, hjn, d1, d2, hff, Nat.add_zero, Nat.zero_add, decide_true, decide_false, hz, r0, r1, r2, r3, r4, r5, r6, r7, r8, r9]
    exact hno _ l1
  by_cases r10 : (f : Int) = 0 ∧ 0 < c.l
  · obtain ⟨r11, r12⟩ := r10
    have r11 := eq_true r11
    simp -implicitDefEqProofs only [↓Zd, (Zp), if_true, if_false, ne_eq, implies_true, forall_const, Nat.reduceEqDiff, reduceIte, reduceCtorEq, Int.reduceEq, Int.reduceNeg, Int.reduceLE, Int.reduceLT, Nat.reduceAdd, Nat.reduceLeDiff, Int.reduceToNat, Nat.reduceMul, Nat.reduceBEq, okPart, Value.cells, cut, okCell, cld2, (BBx), vA, hcb, hjn, d1, d2, hff, Nat.add_zero, Nat.zero_add, decide_true, decide_false, hz, r0, r1, r2, r3, r4, r5, r6, r7, r8, r9, r11, r12]
    exact hno _ l1
  have k2 : (((s.new (.cells [.int .i64 g, .slice pl pool.length cpp, .slice (some ⟨jc, 0, none⟩) C.length ccp] 25 true)).new (.cells [.int .i64 0, .int .i64 0, .int .i64 0, .int .i64 0, .slice none 0 0] 38 true)).put (s.next + 1) (.cells [.int .i64 c.p, .int .i64 c.l, .int .i64 c.s, .int .i64 c.d, .slice c.ad c.ins.length c.cp] 38 true)).at' s.next = some (.cells [.int .i64 g, .slice pl pool.length cpp, .slice (some ⟨jc, 0, none⟩) C.length ccp] 25 true) := by
    rw [St.at_put, if_neg (by omega), St.at_new, if_neg (by simp only [St.next_new]; omega), St.at_new, if_pos rfl]
  have k5 : (((s.new (.cells [.int .i64 g, .slice pl pool.length cpp, .slice (some ⟨jc, 0, none⟩) C.length ccp] 25 true)).new (.cells [.int .i64 0, .int .i64 0, .int .i64 0, .int .i64 0, .slice none 0 0] 38 true)).put (s.next + 1) (.cells [.int .i64 c.p, .int .i64 c.l, .int .i64 c.s, .int .i64 c.d, .slice c.ad c.ins.length c.cp] 38 true)).at' (s.next + 1) = some (.cells [.int .i64 c.p, .int .i64 c.l, .int .i64 c.s, .int .i64 c.d, .slice c.ad c.ins.length c.cp] 38 true) := by
    rw [St.at_put, if_pos rfl]
  have n2 : (((s.new (.cells [.int .i64 g, .slice pl pool.length cpp, .slice (some ⟨jc, 0, none⟩) C.length ccp] 25 true)).new (.cells [.int .i64 0, .int .i64 0, .int .i64 0, .int .i64 0, .slice none 0 0] 38 true)).put (s.next + 1) (.cells [.int .i64 c.p, .int .i64 c.l, .int .i64 c.s, .int .i64 c.d, .slice c.ad c.ins.length c.cp] 38 true)).next = s.next + 2 := rfl
  rcases (show (¬ (f : Int) = 0) ∨ ((f : Int) = 0 ∧ ¬ 0 < c.l) by omega) with r11 | ⟨r11, r12⟩
  case' inl =>
    have r11 := eq_false r11
    simp -implicitDefEqProofs only [↓Zd, (Zp), if_true, if_false, ne_eq, implies_true, forall_const, Nat.reduceEqDiff, reduceIte, reduceCtorEq, Int.reduceEq, Int.reduceNeg, Int.reduceLE, Int.reduceLT, Nat.reduceAdd, Nat.reduceLeDiff, Int.reduceToNat, Nat.reduceMul, Nat.reduceBEq, okPart, Value.cells, cut, okCell, cld2, (BBx), vA, hcb, hjn, d1, d2, hff, Nat.add_zero, Nat.zero_add, decide_true, decide_false, hz, r0, r1, r2, r3, r4, r5, r6, r7, r8, r9, r11]
  case' inr =>
    have r11 := eq_true r11
    simp -implicitDefEqProofs only [↓Zd, (Zp), if_true, if_false, ne_eq, implies_true, forall_const, Nat.reduceEqDiff, reduceIte, reduceCtorEq, Int.reduceEq, Int.reduceNeg, Int.reduceLE, Int.reduceLT, Nat.reduceAdd, Nat.reduceLeDiff, Int.reduceToNat, Nat.reduceMul, Nat.reduceBEq, okPart, Value.cells, cut, okCell, cld2, (BBx), vA, hcb, hjn, d1, d2, hff, Nat.add_zero, Nat.zero_add, decide_true, decide_false, hz, r0, r1, r2, r3, r4, r5, r6, r7, r8, r9, r11, r12]
  all_goals
    generalize (((s.new (.cells [.int .i64 g, .slice pl pool.length cpp, .slice (some ⟨jc, 0, none⟩) C.length ccp] 25 true)).new (.cells [.int .i64 0, .int .i64 0, .int .i64 0, .int .i64 0, .slice none 0 0] 38 true)).put (s.next + 1) (.cells [.int .i64 c.p, .int .i64 c.l, .int .i64 c.s, .int .i64 c.d, .slice c.ad c.ins.length c.cp] 38 true)) = s2 at l1 k2 k5 n2 ⊢
    refine wloop_inv hmix (fun fuel env s' => env 2 = .pointer (some ⟨s.next, 0, none⟩) ∧ env 5 = .pointer (some ⟨s.next + 1, 0, none⟩) ∧ ∃ k : Nat, env 6 = .int .i64 (k : Int) ∧ k ≤ c.ins.length ∧ fuel = c.ins.length - k ∧ s2.le s' ∧ ∀ i, i < k → ∀ x, c.ins[i]? = some x → 22 ≤ x.a0 → x.a0 ≤ 25 → 0 ≤ x.a1 ∧ x.a1 < (c.ins.length : Int)) (c.ins.length - 0) ⟨rfl, rfl, 0, rfl, Nat.zero_le _, rfl, St.le_refl _, fun i hi => absurd hi (Nat.not_lt_zero _)⟩ ?_
    rintro fuel env s3 ⟨e2, e5, k, e6, hk, rfl, l3, hgo⟩
    have n3 := l3.1
    have k23 := (l3.2 s.next (by omega)).trans k2
    have k53 := (l3.2 (s.next + 1) (by omega)).trans k5
    have l13 := St.le_trans l1 l3
    by_cases hk1 : k < c.ins.length
    case neg =>
      have hk' : ¬ (k : Int) < (c.ins.length : Int) := by omega
      simp -implicitDefEqProofs only [↓Zd, (Zp), if_true, if_false, ne_eq, implies_true, forall_const, Nat.reduceEqDiff, reduceIte, reduceCtorEq, Int.reduceEq, Int.reduceNeg, Int.reduceLE, Int.reduceLT, Nat.reduceAdd, Nat.reduceLeDiff, Int.reduceToNat, Nat.reduceMul, Nat.reduceBEq, okPart, Value.cells, cut, okCell, cld2, (BBx), vA, e2, e5, e6, k23, k53, hk', Nat.add_zero, Nat.zero_add, co14]
      refine depths_spec hc (hi.le l13) (by omega) (by omega) (by omega) (fun x hx h1 h2 => ?_) fun s4 q n m b l4 => ?_
      · obtain ⟨i, hix⟩ := List.getElem?_of_mem hx
        exact hgo i (by have := (List.getElem?_eq_some_iff.1 hix).1; omega) x hix h1 h2
      simp -implicitDefEqProofs only [↓Zd, (Zp), if_true, if_false, ne_eq, implies_true, forall_const, Nat.reduceEqDiff, reduceIte, reduceCtorEq, Int.reduceEq, Int.reduceNeg, Int.reduceLE, Int.reduceLT, Nat.reduceAdd, Nat.reduceLeDiff, Int.reduceToNat, Nat.reduceMul, Nat.reduceBEq, okPart, Value.cells, cut, okCell, cld2, (BBx), vA, Nat.add_zero, Nat.zero_add]
      exact hR _ _ (St.le_trans l13 l4) fun _ => ⟨by omega, by omega, by omega⟩
    have hk' : (k : Int) < (c.ins.length : Int) := by omega
    have hkk : (0 : Int) ≤ (k : Int) ∧ (k : Int) < (c.ins.length : Int) := by omega
    have wk : IntKind.i64.wrap ((k : Int) + 1) = ((k + 1 : Nat) : Int) := by rw [wrap_i64 (by omega)]; omega
    rcases id hi with h0 | ⟨j, us, had, hj, hjb, hus⟩
    · rw [h0] at hk1; cases hk1
    have hx : c.ins[k]? = some c.ins[k] := List.getElem?_eq_getElem hk1
    generalize c.ins[k] = x at hx
    have hux : us[k]? = some x := by rw [hus k hk1]; exact hx
    obtain ⟨c1, c2⟩ := actsI_cut us k x hux
    obtain ⟨o, a, b⟩ := x
    have c2 : List.take 3 (List.drop (k * 3) (us.flatMap actIC)) = [.int .i64 o, .int .i64 a, .int .i64 b] := c2
    have hjb3 : s3.at' j = some (.cells (us.flatMap actIC) 41 false) := (l13.2 j hj).trans hjb
    have hjn3 : ¬ j = s3.next := by omega
    have hm1 : ¬ s.next = s3.next := by omega
    have hm2 : ¬ s.next + 1 = s3.next := by omega
    have hzi := ze41
    have l4 : s3.le ((s3.new (.cells [.int .i64 0, .int .i64 0, .int .i64 0] 41 true)).put s3.next (.cells [.int .i64 o, .int .i64 a, .int .i64 b] 41 true)) := (by repeat (first | exact St.le_refl _ | assumption | refine St.le_new ?_ | refine St.le_put ?_ (by first | omega | (simp only [St.next_new, St.next_put, St.next_kill]; omega)) | refine St.le_trans ?_ (by assumption)))
    have k7 : ((s3.new (.cells [.int .i64 0, .int .i64 0, .int .i64 0] 41 true)).put s3.next (.cells [.int .i64 o, .int .i64 a, .int .i64 b] 41 true)).at' s3.next = some (.cells [.int .i64 o, .int .i64 a, .int .i64 b] 41 true) := by rw [St.at_put, if_pos rfl]
    have n4 : ((s3.new (.cells [.int .i64 0, .int .i64 0, .int .i64 0] 41 true)).put s3.next (.cells [.int .i64 o, .int .i64 a, .int .i64 b] 41 true)).next = s3.next + 1 := rfl
    have hnx : ∀ {s' : St M}, s2.le s' → (22 ≤ o → o ≤ 25 → 0 ≤ a ∧ a < (c.ins.length : Int)) → ∃ m, m < c.ins.length - k ∧ ∃ k' : Nat, Value.int .i64 ((k + 1 : Nat) : Int) = .int .i64 (k' : Int) ∧ k' ≤ c.ins.length ∧ m = c.ins.length - k' ∧ s2.le s' ∧ ∀ i, i < k' → ∀ x, c.ins[i]? = some x → 22 ≤ x.a0 → x.a0 ≤ 25 → 0 ≤ x.a1 ∧ x.a1 < (c.ins.length : Int) := fun {s'} h1 h2 => ⟨c.ins.length - (k + 1), by omega, k + 1, rfl, by omega, rfl, h1, fun i hi x hix => by
      by_cases e : i = k
      · subst e
        rw [hx] at hix
        cases hix
        exact h2
      · exact hgo i (by omega) x hix⟩
    have hop : o = 13 ∨ o = 14 ∨ o = 15 ∨ o = 27 ∨ (¬ o = 13 ∧ ¬ o = 14 ∧ ¬ o = 15 ∧ ¬ o = 27) := by omega
    rcases hop with rfl | rfl | rfl | rfl | ⟨p1, p2, p3, p4⟩
    all_goals (first | (simp -implicitDefEqProofs only [↓Zd, (Zp), if_true, if_false, ne_eq, implies_true, forall_const, Nat.reduceEqDiff, reduceIte, reduceCtorEq, Int.reduceEq, Int.reduceNeg, Int.reduceLE, Int.reduceLT, Nat.reduceAdd, Nat.reduceLeDiff, Int.reduceToNat, Nat.reduceMul, Nat.reduceBEq, okPart, Value.cells, cut, okCell, cld2, (BBx), vA, e2, e5, e6, k23, k53, hk', hkk, had, hjb3, hjn3, hm1, hm2, c1, c2, hzi, decide_true, decide_false, Nat.add_zero, Nat.zero_add, co12, p1, p2, p3, p4]) | (simp -implicitDefEqProofs only [↓Zd, (Zp), if_true, if_false, ne_eq, implies_true, forall_const, Nat.reduceEqDiff, reduceIte, reduceCtorEq, Int.reduceEq, Int.reduceNeg, Int.reduceLE, Int.reduceLT, Nat.reduceAdd, Nat.reduceLeDiff, Int.reduceToNat, Nat.reduceMul, Nat.reduceBEq, okPart, Value.cells, cut, okCell, cld2, (BBx), vA, e2, e5, e6, k23, k53, hk', hkk, had, hjb3, hjn3, hm1, hm2, c1, c2, hzi, decide_true, decide_false, Nat.add_zero, Nat.zero_add, co12]))
    all_goals
      have l24 := St.le_trans l3 l4
      rw [← had]
      refine arg_spec hc hP.plen hP.clen fun s5 r l5 hr => ?_
      have n5 := l5.1
      have l25 := St.le_trans l24 l5
      have k25 := (l25.2 s.next (by omega)).trans k2
      have k55 := (l25.2 (s.next + 1) (by omega)).trans k5
      have k75 := (l5.2 s3.next (by omega)).trans k7
      cases r with
      | false =>
        simp -implicitDefEqProofs only [↓Zd, (Zp), if_true, if_false, ne_eq, implies_true, forall_const, Nat.reduceEqDiff, reduceIte, reduceCtorEq, Int.reduceEq, Int.reduceNeg, Int.reduceLE, Int.reduceLT, Nat.reduceAdd, Nat.reduceLeDiff, Int.reduceToNat, Nat.reduceMul, Nat.reduceBEq, okPart, Value.cells, cut, okCell, cld2, (BBx), vA, e2, e5, e6, k25, k55, k75, decide_true, decide_false, Nat.add_zero, Nat.zero_add]
        exact hno _ (St.le_trans l1 l25)
      | true =>
        have hr := hr rfl
        simp -implicitDefEqProofs only [↓Zd, (Zp), if_true, if_false, ne_eq, implies_true, forall_const, Nat.reduceEqDiff, reduceIte, reduceCtorEq, Int.reduceEq, Int.reduceNeg, Int.reduceLE, Int.reduceLT, Nat.reduceAdd, Nat.reduceLeDiff, Int.reduceToNat, Nat.reduceMul, Nat.reduceBEq, okPart, Value.cells, cut, okCell, cld2, (BBx), vA, e2, e5, e6, k25, k55, k75, decide_true, decide_false, Nat.add_zero, Nat.zero_add, co13]
        repeat' (first | (refine g3_split (fun h => ?_) (fun h => ?_) <;> simp -implicitDefEqProofs only [↓Zd, (Zp), if_true, if_false, ne_eq, implies_true, forall_const, Nat.reduceEqDiff, reduceIte, reduceCtorEq, Int.reduceEq, Int.reduceNeg, Int.reduceLE, Int.reduceLT, Nat.reduceAdd, Nat.reduceLeDiff, Int.reduceToNat, Nat.reduceMul, Nat.reduceBEq, okPart, Value.cells, cut, okCell, cld2, (BBx), vA, e2, e5, e6, k25, k55, k75, decide_true, decide_false, Nat.add_zero, Nat.zero_add, co13]) | (refine c2_split (fun h => ?_) (fun h => ?_) <;> simp -implicitDefEqProofs only [↓Zd, (Zp), if_true, if_false, ne_eq, implies_true, forall_const, Nat.reduceEqDiff, reduceIte, reduceCtorEq, Int.reduceEq, Int.reduceNeg, Int.reduceLE, Int.reduceLT, Nat.reduceAdd, Nat.reduceLeDiff, Int.reduceToNat, Nat.reduceMul, Nat.reduceBEq, okPart, Value.cells, cut, okCell, cld2, (BBx), vA, e2, e5, e6, k25, k55, k75, decide_true, decide_false, Nat.add_zero, Nat.zero_add, co13]))
        all_goals
          first
            | exact hno _ (St.le_trans l1 l25)
            | (refine goes_spec fun gg hgg => ?_
               cases gg with
               | false =>
                 simp -implicitDefEqProofs only [↓Zd, (Zp), if_true, if_false, ne_eq, implies_true, forall_const, Nat.reduceEqDiff, reduceIte, reduceCtorEq, Int.reduceEq, Int.reduceNeg, Int.reduceLE, Int.reduceLT, Nat.reduceAdd, Nat.reduceLeDiff, Int.reduceToNat, Nat.reduceMul, Nat.reduceBEq, okPart, Value.cells, cut, okCell, cld2, (BBx), vA, e2, e5, e6, k25, k55, k75, decide_true, decide_false, Nat.add_zero, Nat.zero_add, wk]
                 exact hnx l25 hr
               | true =>
                 first
                   | (exfalso; have := hgg.1 rfl; omega)
                   | (obtain ⟨ha0, hal⟩ := hr (hgg.1 rfl).1 (hgg.1 rfl).2
                      by_cases hak : a ≤ (k : Int)
                      · obtain ⟨an, rfl⟩ : ∃ an : Nat, a = (an : Int) := ⟨a.toNat, by omega⟩
                        have hx2 : c.ins[an]? = some (c.ins[an]'(by omega)) := List.getElem?_eq_getElem _
                        generalize c.ins[an]'(by omega) = x2 at hx2
                        have hux2 : us[an]? = some x2 := by rw [hus an (by omega)]; exact hx2
                        obtain ⟨_, c22⟩ := actsI_cut us an x2 hux2
                        obtain ⟨o2, a2, b2⟩ := x2
                        have c22 : List.take 3 (List.drop (an * 3) (us.flatMap actIC)) = [.int .i64 o2, .int .i64 a2, .int .i64 b2] := c22
                        have c32 : (us.flatMap actIC)[an * 3]? = some (.int .i64 o2) := by
                          have := congrArg (·[0]?) c22
                          simpa [List.getElem?_take, List.getElem?_drop] using this
                        have haa : (0 : Int) ≤ (an : Int) ∧ (an : Int) < (c.ins.length : Int) := by omega
                        have hjb5 : s5.at' j = some (.cells (us.flatMap actIC) 41 false) := ((St.le_trans l1 l25).2 j hj).trans hjb
                        by_cases h1 : o2 = 1
                        · simp -implicitDefEqProofs only [↓Zd, (Zp), if_true, if_false, ne_eq, implies_true, forall_const, Nat.reduceEqDiff, reduceIte, reduceCtorEq, Int.reduceEq, Int.reduceNeg, Int.reduceLE, Int.reduceLT, Nat.reduceAdd, Nat.reduceLeDiff, Int.reduceToNat, Nat.reduceMul, Nat.reduceBEq, okPart, Value.cells, cut, okCell, cld2, (BBx), vA, e2, e5, e6, k25, k55, k75, decide_true, decide_false, Nat.add_zero, Nat.zero_add, wk, hak, had, haa, hjb5, c32, h1]
                          exact hnx l25 hr
                        · simp -implicitDefEqProofs only [↓Zd, (Zp), if_true, if_false, ne_eq, implies_true, forall_const, Nat.reduceEqDiff, reduceIte, reduceCtorEq, Int.reduceEq, Int.reduceNeg, Int.reduceLE, Int.reduceLT, Nat.reduceAdd, Nat.reduceLeDiff, Int.reduceToNat, Nat.reduceMul, Nat.reduceBEq, okPart, Value.cells, cut, okCell, cld2, (BBx), vA, e2, e5, e6, k25, k55, k75, decide_true, decide_false, Nat.add_zero, Nat.zero_add, wk, hak, had, haa, hjb5, c32, h1]
                          exact hno _ (St.le_trans l1 l25)
                      · simp -implicitDefEqProofs only [↓Zd, (Zp), if_true, if_false, ne_eq, implies_true, forall_const, Nat.reduceEqDiff, reduceIte, reduceCtorEq, Int.reduceEq, Int.reduceNeg, Int.reduceLE, Int.reduceLT, Nat.reduceAdd, Nat.reduceLeDiff, Int.reduceToNat, Nat.reduceMul, Nat.reduceBEq, okPart, Value.cells, cut, okCell, cld2, (BBx), vA, e2, e5, e6, k25, k55, k75, decide_true, decide_false, Nat.add_zero, Nat.zero_add, wk, hak]
                        exact hnx l25 hr))
end
end Go.Proofs.Tryz
