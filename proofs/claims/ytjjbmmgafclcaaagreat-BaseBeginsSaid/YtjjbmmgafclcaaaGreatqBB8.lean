/- A frame begins: the walk of the law. A lemma file: no statement of its own. -/
import Derived.Test.YtjjbmmgafclcaaaGreatqFwF
import Derived.Test.YtjjbmmgafclcaaaGreatqBB6
import Derived.Test.YtjjbmmgafclcaaaGreatqBB7
import Derived.Test.YtjjbmmgafclcaaaGreatqVEqB
import Derived.Test.YtjjbmmgafclcaaaGreatqW19
set_option linter.unusedSimpArgs false
set_option linter.unusedVariables false
set_option linter.unusedSectionVars false
namespace Go.Proofs.Tryz
open Go.Cs
open Go.RowKit (Below)
set_option maxRecDepth 100000
attribute [local irreducible] CCalls WLoop WScope CRound WRange
section
variable {M : Type} [Mem M] {w0 : World} {s : St M} {R : Value → St M → Prop} {g : Int} {pl cl : Option Addr} {cpp ccp : Nat} {pool : List ByteArray} {C : List CodeV}
theorem AAt.le {s' : St M} {aad : Option Addr} {A : List (Int × Int × ByteArray)} {acp : Nat} (h : AAt s aad A acp) (hs : s.le s') : AAt s' aad A acp := by
  rcases h with h | ⟨j, us, h1, h2, h3, h4⟩
  · exact .inl h
  · exact .inr ⟨j, us, h1, by have := hs.1; omega, (hs.2 j h2).trans h3, h4⟩
theorem valC_get : ∀ (l : List (Int × Int × ByteArray)) (i : Nat) (v : Int × Int × ByteArray), l[i]? = some v → i * 3 + 3 ≤ (l.flatMap valC).length ∧ List.take 3 (List.drop (i * 3) (l.flatMap valC)) = [.int .i64 v.1, .int .i64 v.2.1, .string v.2.2] := by
  intro l i v h
  have hi := (List.getElem?_eq_some_iff.1 h).1
  refine ⟨by rw [valC_len]; omega, ?_⟩
  rw [valC_drop, show (3 : Nat) = 1 * 3 from rfl, valC_take, List.take_one, List.head?_drop, h]
  rfl
set_option maxHeartbeats 16000000 in
theorem baseBegins_spec (hP : PAt s pl pool cl C) {k n : Int} {x : ByteArray} {A : List (Int × Int × ByteArray)} {aad : Option Addr} {acp : Nat} (hA : AAt s aad A acp) (hAc : A.length ≤ acp) (hAu : acp < UNK) (hAl : A.length ≤ 9223372036854775807) (hR : ∀ s', R (.bool true) s') :
    CCalls Tryz.prog w0 3 #[.agg #[.int .i64 g, .slice pl pool.length cpp, .slice cl C.length ccp], vA k n x, .slice aad A.length acp] s R := by
  refine wfun2 hmix ok3 (l := [.agg #[.int .i64 g, .slice pl pool.length cpp, .slice cl C.length ccp], vA k n x, .slice aad A.length acp]) func3 rfl ntmps3 results3 (by simp) ?_
  have l1 : s.le ((s.new (.cells [.int .i64 g, .slice pl pool.length cpp, .slice cl C.length ccp] 25 true)).new (.cells [.int .i64 k, .int .i64 n, .string x] 27 true)) := (by repeat (first | exact St.le_refl _ | assumption | refine St.le_new ?_ | refine St.le_put ?_ (by first | omega | (simp only [St.next_new, St.next_put, St.next_kill]; omega)) | refine St.le_trans ?_ (by assumption)))
  have k3 : ((s.new (.cells [.int .i64 g, .slice pl pool.length cpp, .slice cl C.length ccp] 25 true)).new (.cells [.int .i64 k, .int .i64 n, .string x] 27 true)).at' s.next = some (.cells [.int .i64 g, .slice pl pool.length cpp, .slice cl C.length ccp] 25 true) := by simp [St.at_new, St.next_new]
  have k4 : ((s.new (.cells [.int .i64 g, .slice pl pool.length cpp, .slice cl C.length ccp] 25 true)).new (.cells [.int .i64 k, .int .i64 n, .string x] 27 true)).at' (s.next + 1) = some (.cells [.int .i64 k, .int .i64 n, .string x] 27 true) := by simp [St.at_new, St.next_new]
  have n1 : ((s.new (.cells [.int .i64 g, .slice pl pool.length cpp, .slice cl C.length ccp] 25 true)).new (.cells [.int .i64 k, .int .i64 n, .string x] 27 true)).next = s.next + 2 := rfl
  simp -implicitDefEqProofs only [↓Zd, (Zp), if_true, if_false, ne_eq, implies_true, forall_const, Nat.reduceEqDiff, reduceIte, reduceCtorEq, Int.reduceEq, Int.reduceNeg, Int.reduceLE, Int.reduceLT, Nat.reduceAdd, Nat.reduceLeDiff, Int.reduceToNat, Nat.reduceMul, Nat.reduceBEq, okPart, Value.cells, cut, okCell, cld2, (BBx), vA, Nat.zero_add, Nat.add_zero, co4]
  generalize ((s.new (.cells [.int .i64 g, .slice pl pool.length cpp, .slice cl C.length ccp] 25 true)).new (.cells [.int .i64 k, .int .i64 n, .string x] 27 true)) = s1 at l1 k3 k4 n1 ⊢
  refine few_spec (hP.le l1) fun s2 b l2 => ?_
  have n2 := l2.1
  have k32 := (l2.2 s.next (by omega)).trans k3
  have l12 := St.le_trans l1 l2
  cases b with
  | false =>
    simp -implicitDefEqProofs only [↓Zd, (Zp), if_true, if_false, ne_eq, implies_true, forall_const, Nat.reduceEqDiff, reduceIte, reduceCtorEq, Int.reduceEq, Int.reduceNeg, Int.reduceLE, Int.reduceLT, Nat.reduceAdd, Nat.reduceLeDiff, Int.reduceToNat, Nat.reduceMul, Nat.reduceBEq, okPart, Value.cells, cut, okCell, cld2, (BBx), vA, co6]
    refine works19_spec ?_
    simp -implicitDefEqProofs only [↓Zd, (Zp), if_true, if_false, ne_eq, implies_true, forall_const, Nat.reduceEqDiff, reduceIte, reduceCtorEq, Int.reduceEq, Int.reduceNeg, Int.reduceLE, Int.reduceLT, Nat.reduceAdd, Nat.reduceLeDiff, Int.reduceToNat, Nat.reduceMul, Nat.reduceBEq, okPart, Value.cells, cut, okCell, cld2, (BBx), vA]
    exact hR _
  | true =>
  by_cases r1 : 12 < (A.length : Int)
  · simp -implicitDefEqProofs only [↓Zd, (Zp), if_true, if_false, ne_eq, implies_true, forall_const, Nat.reduceEqDiff, reduceIte, reduceCtorEq, Int.reduceEq, Int.reduceNeg, Int.reduceLE, Int.reduceLT, Nat.reduceAdd, Nat.reduceLeDiff, Int.reduceToNat, Nat.reduceMul, Nat.reduceBEq, okPart, Value.cells, cut, okCell, cld2, (BBx), vA, r1, decide_true, co6]
    refine works19_spec ?_
    simp -implicitDefEqProofs only [↓Zd, (Zp), if_true, if_false, ne_eq, implies_true, forall_const, Nat.reduceEqDiff, reduceIte, reduceCtorEq, Int.reduceEq, Int.reduceNeg, Int.reduceLE, Int.reduceLT, Nat.reduceAdd, Nat.reduceLeDiff, Int.reduceToNat, Nat.reduceMul, Nat.reduceBEq, okPart, Value.cells, cut, okCell, cld2, (BBx), vA]
    exact hR _
  simp -implicitDefEqProofs only [↓Zd, (Zp), if_true, if_false, ne_eq, implies_true, forall_const, Nat.reduceEqDiff, reduceIte, reduceCtorEq, Int.reduceEq, Int.reduceNeg, Int.reduceLE, Int.reduceLT, Nat.reduceAdd, Nat.reduceLeDiff, Int.reduceToNat, Nat.reduceMul, Nat.reduceBEq, okPart, Value.cells, cut, okCell, cld2, (BBx), vA, r1, k32, decide_false, Nat.zero_add, Nat.add_zero, co5]
  refine check_spec (hP.le l12) fun s3 e l3 hok => ?_
  have n3 := l3.1
  have l23 := St.le_trans l2 l3
  have l13 := St.le_trans l12 l3
  have k33 := (l23.2 s.next (by omega)).trans k3
  have k43 := (l23.2 (s.next + 1) (by omega)).trans k4
  by_cases r2 : e = 0
  case neg =>
    simp -implicitDefEqProofs only [↓Zd, (Zp), if_true, if_false, ne_eq, implies_true, forall_const, Nat.reduceEqDiff, reduceIte, reduceCtorEq, Int.reduceEq, Int.reduceNeg, Int.reduceLE, Int.reduceLT, Nat.reduceAdd, Nat.reduceLeDiff, Int.reduceToNat, Nat.reduceMul, Nat.reduceBEq, okPart, Value.cells, cut, okCell, cld2, (BBx), vA, r2, decide_true, decide_false, co6]
    refine works19_spec ?_
    simp -implicitDefEqProofs only [↓Zd, (Zp), if_true, if_false, ne_eq, implies_true, forall_const, Nat.reduceEqDiff, reduceIte, reduceCtorEq, Int.reduceEq, Int.reduceNeg, Int.reduceLE, Int.reduceLT, Nat.reduceAdd, Nat.reduceLeDiff, Int.reduceToNat, Nat.reduceMul, Nat.reduceBEq, okPart, Value.cells, cut, okCell, cld2, (BBx), vA]
    exact hR _
  have hok := hok r2
  simp -implicitDefEqProofs only [↓Zd, (Zp), if_true, if_false, ne_eq, implies_true, forall_const, Nat.reduceEqDiff, reduceIte, reduceCtorEq, Int.reduceEq, Int.reduceNeg, Int.reduceLE, Int.reduceLT, Nat.reduceAdd, Nat.reduceLeDiff, Int.reduceToNat, Nat.reduceMul, Nat.reduceBEq, okPart, Value.cells, cut, okCell, cld2, (BBx), vA, r2, k33, k43, decide_true, decide_false, Nat.zero_add, Nat.add_zero, co7]
  refine begin_spec (hP.le l13) hok (hA.le l13) hAc hAu (by omega) (fun hno s4 l4 => ?_) (fun f c hk5 hnf hf s4 b V l4 hb1 hb2 hbV hVl hVg => ?_)
  · have n4 := l4.1
    have k34 := (l4.2 s.next (by omega)).trans k33
    have k44 := (l4.2 (s.next + 1) (by omega)).trans k43
    have m1 : ¬ s.next = s4.next := by omega
    have m2 : ¬ s.next + 1 = s4.next := by omega
    have hzF := ze33
    have w00 : IntKind.i64.wrap (0 + 0) = 0 := by decide
    rcases (show ¬ k = 5 ∨ (k = 5 ∧ n < 0) ∨ (k = 5 ∧ ¬ n < 0 ∧ (C.length : Int) ≤ n) by omega) with r3 | ⟨r3, r4⟩ | ⟨r3, r4, r5⟩
    · simp -implicitDefEqProofs only [↓Zd, (Zp), if_true, if_false, ne_eq, implies_true, forall_const, Nat.reduceEqDiff, reduceIte, reduceCtorEq, Int.reduceEq, Int.reduceNeg, Int.reduceLE, Int.reduceLT, Nat.reduceAdd, Nat.reduceLeDiff, Int.reduceToNat, Nat.reduceMul, Nat.reduceBEq, okPart, Value.cells, cut, okCell, cld2, (BBx), vA, r3, k34, k44, m1, m2, hzF, w00, decide_true, decide_false, Nat.zero_add, Nat.add_zero, co6]
      refine works19_spec ?_
      simp -implicitDefEqProofs only [↓Zd, (Zp), if_true, if_false, ne_eq, implies_true, forall_const, Nat.reduceEqDiff, reduceIte, reduceCtorEq, Int.reduceEq, Int.reduceNeg, Int.reduceLE, Int.reduceLT, Nat.reduceAdd, Nat.reduceLeDiff, Int.reduceToNat, Nat.reduceMul, Nat.reduceBEq, okPart, Value.cells, cut, okCell, cld2, (BBx), vA]
      exact hR _
    · simp -implicitDefEqProofs only [↓Zd, (Zp), if_true, if_false, ne_eq, implies_true, forall_const, Nat.reduceEqDiff, reduceIte, reduceCtorEq, Int.reduceEq, Int.reduceNeg, Int.reduceLE, Int.reduceLT, Nat.reduceAdd, Nat.reduceLeDiff, Int.reduceToNat, Nat.reduceMul, Nat.reduceBEq, okPart, Value.cells, cut, okCell, cld2, (BBx), vA, r3, r4, k34, k44, m1, m2, hzF, w00, decide_true, decide_false, Nat.zero_add, Nat.add_zero, co6]
      refine works19_spec ?_
      simp -implicitDefEqProofs only [↓Zd, (Zp), if_true, if_false, ne_eq, implies_true, forall_const, Nat.reduceEqDiff, reduceIte, reduceCtorEq, Int.reduceEq, Int.reduceNeg, Int.reduceLE, Int.reduceLT, Nat.reduceAdd, Nat.reduceLeDiff, Int.reduceToNat, Nat.reduceMul, Nat.reduceBEq, okPart, Value.cells, cut, okCell, cld2, (BBx), vA]
      exact hR _
    · simp -implicitDefEqProofs only [↓Zd, (Zp), if_true, if_false, ne_eq, implies_true, forall_const, Nat.reduceEqDiff, reduceIte, reduceCtorEq, Int.reduceEq, Int.reduceNeg, Int.reduceLE, Int.reduceLT, Nat.reduceAdd, Nat.reduceLeDiff, Int.reduceToNat, Nat.reduceMul, Nat.reduceBEq, okPart, Value.cells, cut, okCell, cld2, (BBx), vA, r3, r4, r5, k34, k44, m1, m2, hzF, w00, decide_true, decide_false, Nat.zero_add, Nat.add_zero, co6]
      refine works19_spec ?_
      simp -implicitDefEqProofs only [↓Zd, (Zp), if_true, if_false, ne_eq, implies_true, forall_const, Nat.reduceEqDiff, reduceIte, reduceCtorEq, Int.reduceEq, Int.reduceNeg, Int.reduceLE, Int.reduceLT, Nat.reduceAdd, Nat.reduceLeDiff, Int.reduceToNat, Nat.reduceMul, Nat.reduceBEq, okPart, Value.cells, cut, okCell, cld2, (BBx), vA]
      exact hR _
  subst hk5 hnf
  have n4 := l4.1
  have k34 := (l4.2 s.next (by omega)).trans k33
  have k44 := (l4.2 (s.next + 1) (by omega)).trans k43
  have m1 : ¬ s.next = s4.next := by omega
  have m2 : ¬ s.next + 1 = s4.next := by omega
  have l14 := St.le_trans l13 l4
  have hfl := (List.getElem?_eq_some_iff.1 hf).1
  have r4 : ¬ (f : Int) < 0 := by omega
  have r5 : ¬ (C.length : Int) ≤ (f : Int) := by omega
  obtain ⟨hp0, hpl, hl24⟩ := hok c (List.mem_of_getElem? hf)
  rcases (hP.le l14).codes with h0 | ⟨jc, nn, cc, rfl, hjc, hcb, hcl, hCn, hcc⟩
  · rw [h0] at hf; cases hf
  obtain ⟨d1, d2⟩ := rowsN_cut hcl (n := nn) (i := f) (by omega)
  rw [hcc f c hf] at d2
  have d2 : List.take 5 (List.drop (f * 5) (rowsN cc nn)) = [.int .i64 c.p, .int .i64 c.l, .int .i64 c.s, .int .i64 c.d, .slice c.ad c.ins.length c.cp] := d2
  have hff : (0 : Int) ≤ (f : Int) ∧ (f : Int) < (C.length : Int) := by omega
  have hj0 : ¬ jc = s4.next := by omega
  have hj1 : ¬ jc = s4.next + 1 := by omega
  have hzF := ze33
  have hzC := ze38
  have hvl : (V.length : Int) = c.l := hVl
  simp -implicitDefEqProofs only [↓Zd, (Zp), if_true, if_false, ne_eq, implies_true, forall_const, Nat.reduceEqDiff, reduceIte, reduceCtorEq, Int.reduceEq, Int.reduceNeg, Int.reduceLE, Int.reduceLT, Nat.reduceAdd, Nat.reduceLeDiff, Int.reduceToNat, Nat.reduceMul, Nat.reduceBEq, okPart, Value.cells, cut, okCell, cld2, (BBx), vA, r4, r5, k34, k44, m1, m2, hzF, hzC, hcb, hj0, hj1, d1, d2, hff, hvl, VneSelf, decide_true, decide_false, Nat.zero_add, Nat.add_zero]
  have lS : s4.le ((((s4.new (.cells [.int .i64 0, .int .i64 0, .slice none 0 0, .slice none 0 0, .int .i64 0, .int .i64 0, .string ⟨#[]⟩] 33 true)).put s4.next (.cells [.int .i64 (f : Int), .int .i64 0, .slice (some ⟨b, 0, none⟩) V.length V.length, .slice none 0 0, .int .i64 5, .int .i64 (f : Int), .string x] 33 true)).new (.cells [.int .i64 0, .int .i64 0, .int .i64 0, .int .i64 0, .slice none 0 0] 38 true)).put (s4.next + 1) (.cells [.int .i64 c.p, .int .i64 c.l, .int .i64 c.s, .int .i64 c.d, .slice c.ad c.ins.length c.cp] 38 true)) := (by repeat (first | exact St.le_refl _ | assumption | refine St.le_new ?_ | refine St.le_put ?_ (by first | omega | (simp only [St.next_new, St.next_put, St.next_kill]; omega)) | refine St.le_trans ?_ (by assumption)))
  have hS7 : ((((s4.new (.cells [.int .i64 0, .int .i64 0, .slice none 0 0, .slice none 0 0, .int .i64 0, .int .i64 0, .string ⟨#[]⟩] 33 true)).put s4.next (.cells [.int .i64 (f : Int), .int .i64 0, .slice (some ⟨b, 0, none⟩) V.length V.length, .slice none 0 0, .int .i64 5, .int .i64 (f : Int), .string x] 33 true)).new (.cells [.int .i64 0, .int .i64 0, .int .i64 0, .int .i64 0, .slice none 0 0] 38 true)).put (s4.next + 1) (.cells [.int .i64 c.p, .int .i64 c.l, .int .i64 c.s, .int .i64 c.d, .slice c.ad c.ins.length c.cp] 38 true)).at' s4.next = some (.cells [.int .i64 (f : Int), .int .i64 0, .slice (some ⟨b, 0, none⟩) V.length V.length, .slice none 0 0, .int .i64 5, .int .i64 (f : Int), .string x] 33 true) := by simp [St.at_put, St.at_new, St.next_put, St.next_new]
  have hS9 : ((((s4.new (.cells [.int .i64 0, .int .i64 0, .slice none 0 0, .slice none 0 0, .int .i64 0, .int .i64 0, .string ⟨#[]⟩] 33 true)).put s4.next (.cells [.int .i64 (f : Int), .int .i64 0, .slice (some ⟨b, 0, none⟩) V.length V.length, .slice none 0 0, .int .i64 5, .int .i64 (f : Int), .string x] 33 true)).new (.cells [.int .i64 0, .int .i64 0, .int .i64 0, .int .i64 0, .slice none 0 0] 38 true)).put (s4.next + 1) (.cells [.int .i64 c.p, .int .i64 c.l, .int .i64 c.s, .int .i64 c.d, .slice c.ad c.ins.length c.cp] 38 true)).at' (s4.next + 1) = some (.cells [.int .i64 c.p, .int .i64 c.l, .int .i64 c.s, .int .i64 c.d, .slice c.ad c.ins.length c.cp] 38 true) := by simp [St.at_put, St.at_new, St.next_put, St.next_new]
  have nS : ((((s4.new (.cells [.int .i64 0, .int .i64 0, .slice none 0 0, .slice none 0 0, .int .i64 0, .int .i64 0, .string ⟨#[]⟩] 33 true)).put s4.next (.cells [.int .i64 (f : Int), .int .i64 0, .slice (some ⟨b, 0, none⟩) V.length V.length, .slice none 0 0, .int .i64 5, .int .i64 (f : Int), .string x] 33 true)).new (.cells [.int .i64 0, .int .i64 0, .int .i64 0, .int .i64 0, .slice none 0 0] 38 true)).put (s4.next + 1) (.cells [.int .i64 c.p, .int .i64 c.l, .int .i64 c.s, .int .i64 c.d, .slice c.ad c.ins.length c.cp] 38 true)).next = s4.next + 2 := rfl
  generalize ((((s4.new (.cells [.int .i64 0, .int .i64 0, .slice none 0 0, .slice none 0 0, .int .i64 0, .int .i64 0, .string ⟨#[]⟩] 33 true)).put s4.next (.cells [.int .i64 (f : Int), .int .i64 0, .slice (some ⟨b, 0, none⟩) V.length V.length, .slice none 0 0, .int .i64 5, .int .i64 (f : Int), .string x] 33 true)).new (.cells [.int .i64 0, .int .i64 0, .int .i64 0, .int .i64 0, .slice none 0 0] 38 true)).put (s4.next + 1) (.cells [.int .i64 c.p, .int .i64 c.l, .int .i64 c.s, .int .i64 c.d, .slice c.ad c.ins.length c.cp] 38 true)) = S7 at lS hS7 hS9 nS ⊢
  refine wloop_inv hmix (fun fuel env s' => env 2 = .slice aad A.length acp ∧ env 7 = .pointer (some ⟨s4.next, 0, none⟩) ∧ env 9 = .pointer (some ⟨s4.next + 1, 0, none⟩) ∧ ∃ i : Nat, env 10 = .int .i64 (i : Int) ∧ i ≤ V.length ∧ fuel = V.length - i ∧ S7.le s') (V.length - 0) ⟨rfl, rfl, rfl, 0, rfl, Nat.zero_le _, rfl, St.le_refl _⟩ ?_
  rintro fuel env s6 ⟨e2, e7, e9, i, e10, hi, rfl, l6⟩
  have n6 := l6.1
  have k76 := (l6.2 s4.next (by omega)).trans hS7
  have k96 := (l6.2 (s4.next + 1) (by omega)).trans hS9
  have l46 := St.le_trans lS l6
  by_cases hi1 : i < V.length
  case neg =>
    have hi' : ¬ (i : Int) < (V.length : Int) := by omega
    simp -implicitDefEqProofs only [↓Zd, (Zp), if_true, if_false, ne_eq, implies_true, forall_const, Nat.reduceEqDiff, reduceIte, reduceCtorEq, Int.reduceEq, Int.reduceNeg, Int.reduceLE, Int.reduceLT, Nat.reduceAdd, Nat.reduceLeDiff, Int.reduceToNat, Nat.reduceMul, Nat.reduceBEq, okPart, Value.cells, cut, okCell, cld2, (BBx), vA, e2, e7, e9, e10, k76, hi', Nat.zero_add, Nat.add_zero, co6]
    refine works19_spec ?_
    simp -implicitDefEqProofs only [↓Zd, (Zp), if_true, if_false, ne_eq, implies_true, forall_const, Nat.reduceEqDiff, reduceIte, reduceCtorEq, Int.reduceEq, Int.reduceNeg, Int.reduceLE, Int.reduceLT, Nat.reduceAdd, Nat.reduceLeDiff, Int.reduceToNat, Nat.reduceMul, Nat.reduceBEq, okPart, Value.cells, cut, okCell, cld2, (BBx), vA]
    exact hR _
  have hi' : (i : Int) < (V.length : Int) := by omega
  have hii : (0 : Int) ≤ (i : Int) ∧ (i : Int) < (V.length : Int) := by omega
  have wi : IntKind.i64.wrap ((i : Int) + 1) = ((i + 1 : Nat) : Int) := by rw [wrap_i64 (by omega)]; omega
  have hbV6 := (l46.2 b hb2).trans hbV
  have hnx : ∀ {s' : St M}, S7.le s' → ∃ m, m < V.length - i ∧ ∃ i' : Nat, Value.int .i64 ((i + 1 : Nat) : Int) = .int .i64 (i' : Int) ∧ i' ≤ V.length ∧ m = V.length - i' ∧ S7.le s' := fun h => ⟨V.length - (i + 1), by omega, i + 1, rfl, by omega, rfl, h⟩
  have q1 : ¬ s4.next = s6.next := by omega
  have q2 : ¬ s4.next + 1 = s6.next := by omega
  have q3 : ¬ b = s6.next := by have := l46.1; omega
  have hzV := ze27
  have hb0 : cbuild Tryz.prog 27 #[] = some (.agg #[.int .i64 0, .int .i64 0, .string ⟨#[]⟩]) := by kernel_rfl
  have hV := hVg i hi1
  by_cases r6 : (i : Int) < c.p
  · by_cases r7 : i < A.length
    · rw [if_pos ⟨r6, r7⟩] at hV
      have ha : A[i]? = some A[i] := List.getElem?_eq_getElem r7
      rw [ha] at hV
      generalize A[i] = a at ha hV
      obtain ⟨v1, v2⟩ := valC_get V i a hV
      rcases ((hA.le l14).le l46) with ⟨_, h0, _⟩ | ⟨j, us, rfl, hj, hjb, hus⟩
      · rw [h0] at r7; cases r7
      obtain ⟨u1, u2⟩ := valC_get us i a ((hus i r7).trans ha)
      have r7' : (i : Int) < (A.length : Int) := by omega
      have haa : (0 : Int) ≤ (i : Int) ∧ (i : Int) < (A.length : Int) := by omega
      have q4 : ¬ j = s6.next := by omega
      simp -implicitDefEqProofs only [↓Zd, (Zp), if_true, if_false, ne_eq, implies_true, forall_const, Nat.reduceEqDiff, reduceIte, reduceCtorEq, Int.reduceEq, Int.reduceNeg, Int.reduceLE, Int.reduceLT, Nat.reduceAdd, Nat.reduceLeDiff, Int.reduceToNat, Nat.reduceMul, Nat.reduceBEq, okPart, Value.cells, cut, okCell, cld2, (BBx), vA, e2, e7, e9, e10, k76, k96, hi', hii, hbV6, v1, v2, q1, q2, q3, q4, hzV, hb0, r6, r7', haa, hjb, u1, u2, VneSelf, wi, decide_true, decide_false, Nat.zero_add, Nat.add_zero, ord3]
      exact hnx (by repeat (first | exact St.le_refl _ | assumption | refine St.le_new ?_ | refine St.le_put ?_ (by first | omega | (simp only [St.next_new, St.next_put, St.next_kill]; omega)) | refine St.le_trans ?_ (by assumption)))
    · rw [if_neg (fun h => r7 h.2)] at hV
      obtain ⟨v1, v2⟩ := valC_get V i _ hV
      have r7' : ¬ (i : Int) < (A.length : Int) := by omega
      simp -implicitDefEqProofs only [↓Zd, (Zp), if_true, if_false, ne_eq, implies_true, forall_const, Nat.reduceEqDiff, reduceIte, reduceCtorEq, Int.reduceEq, Int.reduceNeg, Int.reduceLE, Int.reduceLT, Nat.reduceAdd, Nat.reduceLeDiff, Int.reduceToNat, Nat.reduceMul, Nat.reduceBEq, okPart, Value.cells, cut, okCell, cld2, (BBx), vA, e2, e7, e9, e10, k76, k96, hi', hii, hbV6, v1, v2, q1, q2, q3, hzV, hb0, r6, r7', VneSelf, wi, decide_true, decide_false, Nat.zero_add, Nat.add_zero, ord3]
      exact hnx (by repeat (first | exact St.le_refl _ | assumption | refine St.le_new ?_ | refine St.le_put ?_ (by first | omega | (simp only [St.next_new, St.next_put, St.next_kill]; omega)) | refine St.le_trans ?_ (by assumption)))
  · rw [if_neg (fun h => r6 h.1)] at hV
    obtain ⟨v1, v2⟩ := valC_get V i _ hV
    simp -implicitDefEqProofs only [↓Zd, (Zp), if_true, if_false, ne_eq, implies_true, forall_const, Nat.reduceEqDiff, reduceIte, reduceCtorEq, Int.reduceEq, Int.reduceNeg, Int.reduceLE, Int.reduceLT, Nat.reduceAdd, Nat.reduceLeDiff, Int.reduceToNat, Nat.reduceMul, Nat.reduceBEq, okPart, Value.cells, cut, okCell, cld2, (BBx), vA, e2, e7, e9, e10, k76, k96, hi', hii, hbV6, v1, v2, q1, q2, q3, hzV, hb0, r6, VneSelf, wi, decide_true, decide_false, Nat.zero_add, Nat.add_zero, ord3]
    exact hnx (by repeat (first | exact St.le_refl _ | assumption | refine St.le_new ?_ | refine St.le_put ?_ (by first | omega | (simp only [St.next_new, St.next_put, St.next_kill]; omega)) | refine St.le_trans ?_ (by assumption)))
end
end Go.Proofs.Tryz
