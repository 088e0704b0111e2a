/- The form of programs: the walks of Few and Check. A lemma file: no statement of its own. -/
import Derived.Test.YtjjbmmgafclcaaaGreatqFwF
import Derived.Test.YtjjbmmgafclcaaaGreatqBB5
set_option linter.unusedSimpArgs false
set_option linter.unusedVariables false
set_option linter.unusedSectionVars false
namespace Go.Proofs.Tryz
open Go.Cs
open Go.RowKit (Below)
set_option maxRecDepth 100000
attribute [local irreducible] CCalls WLoop WScope CRound WRange
section
variable {M : Type} [Mem M] {w0 : World} {s : St M} {R : Value → St M → Prop} {g : Int} {pl cl : Option Addr} {cpp ccp : Nat} {pool : List ByteArray} {C : List CodeV}
set_option maxHeartbeats 8000000 in
theorem few_spec (hP : PAt s pl pool cl C) (hR : ∀ s' b, s.le s' → R (.bool b) s') :
    CCalls Tryz.prog w0 4 #[.agg #[.int .i64 g, .slice pl pool.length cpp, .slice cl C.length ccp], .int .i64 400] s R := by
  refine wfun2 hmix ok4 (l := [.agg #[.int .i64 g, .slice pl pool.length cpp, .slice cl C.length ccp], .int .i64 400]) func4 rfl ntmps4 results4 (by simp) ?_
  have l1 : s.le (s.new (.cells [.int .i64 g, .slice pl pool.length cpp, .slice cl C.length ccp] 25 true)) := St.le_new (St.le_refl _)
  have k2 : (s.new (.cells [.int .i64 g, .slice pl pool.length cpp, .slice cl C.length ccp] 25 true)).at' s.next = some (.cells [.int .i64 g, .slice pl pool.length cpp, .slice cl C.length ccp] 25 true) := by rw [St.at_new, if_pos rfl]
  by_cases r1 : 40 < (C.length : Int)
  · simp -implicitDefEqProofs only [↓Zd, (Zp), if_true, if_false, ne_eq, implies_true, forall_const, Nat.reduceEqDiff, reduceIte, reduceCtorEq, Int.reduceEq, Int.reduceNeg, Int.reduceLE, Int.reduceLT, Nat.reduceAdd, Nat.reduceLeDiff, Int.reduceToNat, Nat.reduceMul, Nat.reduceBEq, okPart, Value.cells, cut, okCell, cld2, (BBx), vA, r1, Nat.zero_add, Nat.add_zero, decide_true]
    exact hR _ _ l1
  by_cases r2 : 130 < (pool.length : Int)
  · simp -implicitDefEqProofs only [↓Zd, (Zp), if_true, if_false, ne_eq, implies_true, forall_const, Nat.reduceEqDiff, reduceIte, reduceCtorEq, Int.reduceEq, Int.reduceNeg, Int.reduceLE, Int.reduceLT, Nat.reduceAdd, Nat.reduceLeDiff, Int.reduceToNat, Nat.reduceMul, Nat.reduceBEq, okPart, Value.cells, cut, okCell, cld2, (BBx), vA, r1, r2, Nat.zero_add, Nat.add_zero, decide_true, decide_false]
    exact hR _ _ l1
  simp -implicitDefEqProofs only [↓Zd, (Zp), if_true, if_false, ne_eq, implies_true, forall_const, Nat.reduceEqDiff, reduceIte, reduceCtorEq, Int.reduceEq, Int.reduceNeg, Int.reduceLE, Int.reduceLT, Nat.reduceAdd, Nat.reduceLeDiff, Int.reduceToNat, Nat.reduceMul, Nat.reduceBEq, okPart, Value.cells, cut, okCell, cld2, (BBx), vA, r1, r2, Nat.zero_add, Nat.add_zero, decide_true, decide_false]
  generalize s.new (.cells [.int .i64 g, .slice pl pool.length cpp, .slice cl C.length ccp] 25 true) = s1 at l1 k2 ⊢
  refine wloop_inv hmix (fun fuel env s' => s' = s1 ∧ env 2 = .pointer (some ⟨s.next, 0, none⟩) ∧ ∃ (k : Nat) (m : Int), env 5 = .int .i64 (k : Int) ∧ env 1 = .int .i64 m ∧ 0 ≤ m ∧ m ≤ 400 ∧ k ≤ C.length ∧ fuel = C.length - k) (C.length - 0) ⟨rfl, rfl, 0, 400, rfl, rfl, by omega, by omega, Nat.zero_le _, rfl⟩ ?_
  rintro fuel env s3 ⟨rfl, e2, k, m, e5, e1, hm0, hm4, hk, rfl⟩
  by_cases hk1 : k < C.length
  case neg =>
    have hk' : ¬ (k : Int) < (C.length : Int) := by omega
    simp -implicitDefEqProofs only [↓Zd, (Zp), if_true, if_false, ne_eq, implies_true, forall_const, Nat.reduceEqDiff, reduceIte, reduceCtorEq, Int.reduceEq, Int.reduceNeg, Int.reduceLE, Int.reduceLT, Nat.reduceAdd, Nat.reduceLeDiff, Int.reduceToNat, Nat.reduceMul, Nat.reduceBEq, okPart, Value.cells, cut, okCell, cld2, (BBx), vA, e1, e2, e5, k2, hk', Nat.zero_add, Nat.add_zero]
    exact hR _ _ l1
  have hk' : (k : Int) < (C.length : Int) := by omega
  have hkk : (0 : Int) ≤ (k : Int) ∧ (k : Int) < (C.length : Int) := by omega
  have wk : IntKind.i64.wrap ((k : Int) + 1) = ((k + 1 : Nat) : Int) := by rw [wrap_i64 (by omega)]; omega
  have hc : C[k]? = some C[k] := List.getElem?_eq_getElem hk1
  generalize C[k] = c at hc
  rcases hP.codes with h0 | ⟨jc, n, cc, rfl, hjc, hcb, hcl, hCn, hcc⟩
  · rw [h0] at hk1; cases hk1
  have d4 : (rowsN cc n)[k * 5 + 4]? = some (.slice c.ad c.ins.length c.cp) := by
    rw [rowsN_get hcl (by omega) (by omega), hcc k c hc]; rfl
  have hcb3 : s3.at' jc = some (.cells (rowsN cc n) 38 false) := (l1.2 jc hjc).trans hcb
  by_cases hlm : m < (c.ins.length : Int)
  · simp -implicitDefEqProofs only [↓Zd, (Zp), if_true, if_false, ne_eq, implies_true, forall_const, Nat.reduceEqDiff, reduceIte, reduceCtorEq, Int.reduceEq, Int.reduceNeg, Int.reduceLE, Int.reduceLT, Nat.reduceAdd, Nat.reduceLeDiff, Int.reduceToNat, Nat.reduceMul, Nat.reduceBEq, okPart, Value.cells, cut, okCell, cld2, (BBx), vA, e1, e2, e5, k2, hk', hkk, hcb3, d4, hm0, hlm, Nat.zero_add, Nat.add_zero, decide_true]
    exact hR _ _ l1
  have wm : IntKind.i64.wrap (m - (c.ins.length : Int)) = m - (c.ins.length : Int) := wrap_i64 (by omega)
  simp -implicitDefEqProofs only [↓Zd, (Zp), if_true, if_false, ne_eq, implies_true, forall_const, Nat.reduceEqDiff, reduceIte, reduceCtorEq, Int.reduceEq, Int.reduceNeg, Int.reduceLE, Int.reduceLT, Nat.reduceAdd, Nat.reduceLeDiff, Int.reduceToNat, Nat.reduceMul, Nat.reduceBEq, okPart, Value.cells, cut, okCell, cld2, (BBx), vA, e1, e2, e5, k2, hk', hkk, hcb3, d4, hm0, hlm, wk, wm, Nat.zero_add, Nat.add_zero, decide_true, decide_false]
  exact ⟨C.length - (k + 1), by omega, k + 1, m - (c.ins.length : Int), rfl, rfl, by omega, by omega, by omega, rfl⟩
set_option maxHeartbeats 8000000 in
theorem check_spec (hP : PAt s pl pool cl C) (hR : ∀ s' e, s.le s' → (e = 0 → ∀ c ∈ C, 0 ≤ c.p ∧ c.p ≤ c.l ∧ c.l ≤ 24) → R (.int .i64 e) s') :
    CCalls Tryz.prog w0 5 #[.agg #[.int .i64 g, .slice pl pool.length cpp, .slice cl C.length ccp]] s R := by
  refine wfun2 hmix ok5 (l := [.agg #[.int .i64 g, .slice pl pool.length cpp, .slice cl C.length ccp]]) func5 rfl ntmps5 results5 (by simp) ?_
  have l1 : s.le (s.new (.cells [.int .i64 g, .slice pl pool.length cpp, .slice cl C.length ccp] 25 true)) := St.le_new (St.le_refl _)
  have k1 : (s.new (.cells [.int .i64 g, .slice pl pool.length cpp, .slice cl C.length ccp] 25 true)).at' s.next = some (.cells [.int .i64 g, .slice pl pool.length cpp, .slice cl C.length ccp] 25 true) := by rw [St.at_new, if_pos rfl]
  have n1 : (s.new (.cells [.int .i64 g, .slice pl pool.length cpp, .slice cl C.length ccp] 25 true)).next = s.next + 1 := rfl
  have hno : ∀ s', s.le s' → R (.int .i64 16) s' := fun s' h => hR s' 16 h (fun h => absurd h (by decide))
  by_cases r1 : g < 0
  · simp -implicitDefEqProofs only [↓Zd, (Zp), if_true, if_false, ne_eq, implies_true, forall_const, Nat.reduceEqDiff, reduceIte, reduceCtorEq, Int.reduceEq, Int.reduceNeg, Int.reduceLE, Int.reduceLT, Nat.reduceAdd, Nat.reduceLeDiff, Int.reduceToNat, Nat.reduceMul, Nat.reduceBEq, okPart, Value.cells, cut, okCell, cld2, (BBx), vA, r1, Nat.zero_add, Nat.add_zero, decide_true]
    exact hno _ l1
  by_cases r2 : 24 < g
  · simp -implicitDefEqProofs only [↓Zd, (Zp), if_true, if_false, ne_eq, implies_true, forall_const, Nat.reduceEqDiff, reduceIte, reduceCtorEq, Int.reduceEq, Int.reduceNeg, Int.reduceLE, Int.reduceLT, Nat.reduceAdd, Nat.reduceLeDiff, Int.reduceToNat, Nat.reduceMul, Nat.reduceBEq, okPart, Value.cells, cut, okCell, cld2, (BBx), vA, r1, r2, Nat.zero_add, Nat.add_zero, decide_true, decide_false]
    exact hno _ l1
  by_cases r3 : (C.length : Int) < 1
  · simp -implicitDefEqProofs only [↓Zd, (Zp), if_true, if_false, ne_eq, implies_true, forall_const, Nat.reduceEqDiff, reduceIte, reduceCtorEq, Int.reduceEq, Int.reduceNeg, Int.reduceLE, Int.reduceLT, Nat.reduceAdd, Nat.reduceLeDiff, Int.reduceToNat, Nat.reduceMul, Nat.reduceBEq, okPart, Value.cells, cut, okCell, cld2, (BBx), vA, r1, r2, r3, Nat.zero_add, Nat.add_zero, decide_true, decide_false]
    exact hno _ l1
  by_cases r4 : 32 < (C.length : Int)
  · simp -implicitDefEqProofs only [↓Zd, (Zp), if_true, if_false, ne_eq, implies_true, forall_const, Nat.reduceEqDiff, reduceIte, reduceCtorEq, Int.reduceEq, Int.reduceNeg, Int.reduceLE, Int.reduceLT, Nat.reduceAdd, Nat.reduceLeDiff, Int.reduceToNat, Nat.reduceMul, Nat.reduceBEq, okPart, Value.cells, cut, okCell, cld2, (BBx), vA, r1, r2, r3, r4, Nat.zero_add, Nat.add_zero, decide_true, decide_false]
    exact hno _ l1
  by_cases r5 : 120 < (pool.length : Int)
  · simp -implicitDefEqProofs only [↓Zd, (Zp), if_true, if_false, ne_eq, implies_true, forall_const, Nat.reduceEqDiff, reduceIte, reduceCtorEq, Int.reduceEq, Int.reduceNeg, Int.reduceLE, Int.reduceLT, Nat.reduceAdd, Nat.reduceLeDiff, Int.reduceToNat, Nat.reduceMul, Nat.reduceBEq, okPart, Value.cells, cut, okCell, cld2, (BBx), vA, r1, r2, r3, r4, r5, Nat.zero_add, Nat.add_zero, decide_true, decide_false]
    exact hno _ l1
  simp -implicitDefEqProofs only [↓Zd, (Zp), if_true, if_false, ne_eq, implies_true, forall_const, Nat.reduceEqDiff, reduceIte, reduceCtorEq, Int.reduceEq, Int.reduceNeg, Int.reduceLE, Int.reduceLT, Nat.reduceAdd, Nat.reduceLeDiff, Int.reduceToNat, Nat.reduceMul, Nat.reduceBEq, okPart, Value.cells, cut, okCell, cld2, (BBx), vA, r1, r2, r3, r4, r5, Nat.zero_add, Nat.add_zero, decide_true, decide_false]
  generalize s.new (.cells [.int .i64 g, .slice pl pool.length cpp, .slice cl C.length ccp] 25 true) = s1 at l1 k1 n1 ⊢
  refine wloop_inv hmix (fun fuel env s' => s' = s1 ∧ env 1 = .pointer (some ⟨s.next, 0, none⟩) ∧ ∃ k : Nat, env 3 = .int .i64 (k : Int) ∧ k ≤ pool.length ∧ fuel = pool.length - k) (pool.length - 0) ⟨rfl, rfl, 0, rfl, Nat.zero_le _, rfl⟩ ?_
  rintro fuel env s3 ⟨rfl, e1, k, e3, hk, rfl⟩
  by_cases hk1 : k < pool.length
  case pos =>
    have hk' : (k : Int) < (pool.length : Int) := by omega
    have hkk : (0 : Int) ≤ (k : Int) ∧ (k : Int) < (pool.length : Int) := by omega
    have wk : IntKind.i64.wrap ((k : Int) + 1) = ((k + 1 : Nat) : Int) := by rw [wrap_i64 (by omega)]; omega
    have hx : pool[k]? = some pool[k] := List.getElem?_eq_getElem hk1
    generalize pool[k] = x at hx
    rcases hP.strs with h0 | ⟨j, us, rfl, hj, hjb, hus⟩
    · rw [h0] at hk1; cases hk1
    have d0 : (us.flatMap strC)[k]? = some (.string x) := by
      have e : us.flatMap strC = us.map Value.string := by
        clear hjb hus
        induction us with
        | nil => rfl
        | cons y l ih => rw [List.flatMap_cons, ih]; rfl
      rw [e, List.getElem?_map, hus k hk1, hx]; rfl
    have hjb3 : s3.at' j = some (.cells (us.flatMap strC) 9 false) := (l1.2 j hj).trans hjb
    by_cases hxl : (256 : Int) < (x.size : Int)
    · simp -implicitDefEqProofs only [↓Zd, (Zp), if_true, if_false, ne_eq, implies_true, forall_const, Nat.reduceEqDiff, reduceIte, reduceCtorEq, Int.reduceEq, Int.reduceNeg, Int.reduceLE, Int.reduceLT, Nat.reduceAdd, Nat.reduceLeDiff, Int.reduceToNat, Nat.reduceMul, Nat.reduceBEq, okPart, Value.cells, cut, okCell, cld2, (BBx), vA, e1, e3, k1, hk', hkk, hjb3, d0, hxl, Nat.mul_one, Nat.zero_add, Nat.add_zero, decide_true]
      exact hno _ l1
    · simp -implicitDefEqProofs only [↓Zd, (Zp), if_true, if_false, ne_eq, implies_true, forall_const, Nat.reduceEqDiff, reduceIte, reduceCtorEq, Int.reduceEq, Int.reduceNeg, Int.reduceLE, Int.reduceLT, Nat.reduceAdd, Nat.reduceLeDiff, Int.reduceToNat, Nat.reduceMul, Nat.reduceBEq, okPart, Value.cells, cut, okCell, cld2, (BBx), vA, e1, e3, k1, hk', hkk, hjb3, d0, hxl, wk, Nat.mul_one, Nat.zero_add, Nat.add_zero, decide_false]
      exact ⟨pool.length - (k + 1), by omega, k + 1, rfl, by omega, rfl⟩
  have hk' : ¬ (k : Int) < (pool.length : Int) := by omega
  simp -implicitDefEqProofs only [↓Zd, (Zp), if_true, if_false, ne_eq, implies_true, forall_const, Nat.reduceEqDiff, reduceIte, reduceCtorEq, Int.reduceEq, Int.reduceNeg, Int.reduceLE, Int.reduceLT, Nat.reduceAdd, Nat.reduceLeDiff, Int.reduceToNat, Nat.reduceMul, Nat.reduceBEq, okPart, Value.cells, cut, okCell, cld2, (BBx), vA, e1, e3, k1, hk', Nat.zero_add, Nat.add_zero]
  refine wloop_inv hmix (fun fuel env s' => env 1 = .pointer (some ⟨s.next, 0, none⟩) ∧ ∃ k : Nat, env 4 = .int .i64 (k : Int) ∧ k ≤ C.length ∧ fuel = C.length - k ∧ s3.le s' ∧ ∀ i, i < k → ∀ c, C[i]? = some c → 0 ≤ c.p ∧ c.p ≤ c.l ∧ c.l ≤ 24) (C.length - 0) ⟨by simp only [upd_apply]; simpa using e1, 0, rfl, Nat.zero_le _, rfl, St.le_refl _, fun i hi => absurd hi (Nat.not_lt_zero _)⟩ ?_
  clear e1 e3 hk hk1 hk' k env
  rintro fuel env s4 ⟨e1, k, e4, hk, rfl, l4, hgo⟩
  have k14 := (l4.2 s.next (by omega)).trans k1
  have l14 := St.le_trans l1 l4
  by_cases hk1 : k < C.length
  case neg =>
    have hk' : ¬ (k : Int) < (C.length : Int) := by omega
    simp -implicitDefEqProofs only [↓Zd, (Zp), if_true, if_false, ne_eq, implies_true, forall_const, Nat.reduceEqDiff, reduceIte, reduceCtorEq, Int.reduceEq, Int.reduceNeg, Int.reduceLE, Int.reduceLT, Nat.reduceAdd, Nat.reduceLeDiff, Int.reduceToNat, Nat.reduceMul, Nat.reduceBEq, okPart, Value.cells, cut, okCell, cld2, (BBx), vA, e1, e4, k14, hk', Nat.zero_add, Nat.add_zero]
    refine hR _ _ l14 fun _ c hc => ?_
    obtain ⟨i, hi⟩ := List.getElem?_of_mem hc
    exact hgo i (by have := (List.getElem?_eq_some_iff.1 hi).1; omega) c hi
  have hk' : (k : Int) < (C.length : Int) := by omega
  have wk : IntKind.i64.wrap ((k : Int) + 1) = ((k + 1 : Nat) : Int) := by rw [wrap_i64 (by omega)]; omega
  have hc : C[k]? = some C[k] := List.getElem?_eq_getElem hk1
  generalize C[k] = c at hc
  simp -implicitDefEqProofs only [↓Zd, (Zp), if_true, if_false, ne_eq, implies_true, forall_const, Nat.reduceEqDiff, reduceIte, reduceCtorEq, Int.reduceEq, Int.reduceNeg, Int.reduceLE, Int.reduceLT, Nat.reduceAdd, Nat.reduceLeDiff, Int.reduceToNat, Nat.reduceMul, Nat.reduceBEq, okPart, Value.cells, cut, okCell, cld2, (BBx), vA, e1, e4, k14, hk', Nat.zero_add, Nat.add_zero, co8]
  refine right_spec (hP.le l14) hc (by omega) fun s5 b l5 hb => ?_
  cases b with
  | false =>
    simp -implicitDefEqProofs only [↓Zd, (Zp), if_true, if_false, ne_eq, implies_true, forall_const, Nat.reduceEqDiff, reduceIte, reduceCtorEq, Int.reduceEq, Int.reduceNeg, Int.reduceLE, Int.reduceLT, Nat.reduceAdd, Nat.reduceLeDiff, Int.reduceToNat, Nat.reduceMul, Nat.reduceBEq, okPart, Value.cells, cut, okCell, cld2, (BBx), vA, e1, e4]
    exact hno _ (St.le_trans l14 l5)
  | true =>
    simp -implicitDefEqProofs only [↓Zd, (Zp), if_true, if_false, ne_eq, implies_true, forall_const, Nat.reduceEqDiff, reduceIte, reduceCtorEq, Int.reduceEq, Int.reduceNeg, Int.reduceLE, Int.reduceLT, Nat.reduceAdd, Nat.reduceLeDiff, Int.reduceToNat, Nat.reduceMul, Nat.reduceBEq, okPart, Value.cells, cut, okCell, cld2, (BBx), vA, e1, e4, wk]
    refine ⟨C.length - (k + 1), by omega, k + 1, rfl, by omega, rfl, St.le_trans l4 l5, fun i hi c2 hc2 => ?_⟩
    by_cases e : i = k
    · subst e
      rw [hc] at hc2
      cases hc2
      exact hb rfl
    · exact hgo i (by omega) c2 hc2
end
end Go.Proofs.Tryz
