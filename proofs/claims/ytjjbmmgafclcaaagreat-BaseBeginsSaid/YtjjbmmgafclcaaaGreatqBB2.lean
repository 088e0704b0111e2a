/- The form of a program's codes: where an instruction goes, and whether its argument may be. A lemma file: no statement of its own. -/
import Derived.Test.YtjjbmmgafclcaaaGreatqFwF
import Derived.Test.YtjjbmmgafclcaaaGreatqBB1
set_option linter.unusedSimpArgs false
set_option linter.unusedVariables false
set_option linter.unusedSectionVars false
namespace Go.Proofs.Tryz
open Go.Cs
open Go.RowKit (Below)
set_option maxRecDepth 100000
attribute [local irreducible] CCalls WLoop WScope CRound WRange
theorem rowI1 (a : Int) : crow Tryz.prog 54 1 #[(0, .int .i64 a)] = some (.cells [.int .i64 a] 3 true) := by kernel_rfl
theorem rowI2 (a b : Int) : crow Tryz.prog 54 2 #[(0, .int .i64 a), (1, .int .i64 b)] = some (.cells [.int .i64 a, .int .i64 b] 3 true) := by kernel_rfl
section
variable {M : Type} [Mem M] {w0 : World} {s : St M} {R : Value → St M → Prop}
theorem QRow.le {α : Type} {e : TypeId} {cellsA : α → List Value} {s' : St M} {a : Option Addr} {A : List α} (h : QRow e cellsA s a A) (hs : s.le s') : QRow e cellsA s' a A := by
  rcases h with h | ⟨j, us, h1, h2, h3, h4⟩
  · exact .inl h
  · exact .inr ⟨j, us, h1, by have := hs.1; omega, (hs.2 j h2).trans h3, h4⟩
structure PAt (s : St M) (pl : Option Addr) (pool : List ByteArray) (cl : Option Addr) (C : List CodeV) : Prop where
  strs : QRow 9 strC s pl pool
  codes : C = [] ∨ ∃ (j n : Nat) (cc : Nat → List Value), cl = some ⟨j, 0, none⟩ ∧ j < s.next ∧ s.at' j = some (.cells (rowsN cc n) 38 false) ∧ (∀ i, (cc i).length = 5) ∧ C.length ≤ n ∧ ∀ i c, C[i]? = some c → cc i = codeC c
  ins : ∀ c ∈ C, QRow 41 actIC s c.ad c.ins
  ok : ∀ c ∈ C, CodeOk c
  plen : pool.length ≤ 9223372036854775807
  clen : C.length ≤ 9223372036854775807
theorem PAt.le {s' : St M} {pl cl : Option Addr} {pool : List ByteArray} {C : List CodeV} (h : PAt s pl pool cl C) (hs : s.le s') : PAt s' pl pool cl C := by
  refine ⟨h.strs.le hs, ?_, fun c hc => (h.ins c hc).le hs, h.ok, h.plen, h.clen⟩
  rcases h.codes with h | ⟨j, n, cc, h1, h2, h3, h4⟩
  · exact .inl h
  · exact .inr ⟨j, n, cc, h1, by have := hs.1; omega, (hs.2 j h2).trans h3, h4⟩
set_option maxHeartbeats 8000000 in
theorem targets_spec {c : CodeV} (hc : CodeOk c) (hi : QRow 41 actIC s c.ad c.ins) {k : Nat} (hk : k < c.ins.length) (hk2 : k ≤ 4000)
    (hR : ∀ s' q n m (l : List Int), s.le s' → (l = [] ∧ q = none ∧ n = 0 ∨ ∃ b, q = some ⟨b, 0, none⟩ ∧ s.next ≤ b ∧ b < s'.next ∧ n = l.length ∧ s'.at' b = some (.cells (l.map (.int .i64)) 3 true)) → (l = [] ∨ (∃ x, c.ins[k]? = some x ∧ 22 ≤ x.a0 ∧ x.a0 ≤ 25 ∧ (l = [x.a1] ∨ l = [(k : Int) + 1, x.a1])) ∨ l = [(k : Int) + 1]) → R (.slice q n m) s') :
    CCalls Tryz.prog w0 21 #[.agg #[.int .i64 c.p, .int .i64 c.l, .int .i64 c.s, .int .i64 c.d, .slice c.ad c.ins.length c.cp], .int .i64 (k : Int)] s R := by
  refine wfun2 hmix ok21 (l := [.agg #[.int .i64 c.p, .int .i64 c.l, .int .i64 c.s, .int .i64 c.d, .slice c.ad c.ins.length c.cp], .int .i64 (k : Int)]) func21 rfl ntmps21 results21 (by simp) ?_
  rcases hi with h0 | ⟨j, us, had, hj, hjb, hus⟩
  · rw [h0] at hk; cases hk
  have hx : c.ins[k]? = some c.ins[k] := List.getElem?_eq_getElem hk
  generalize c.ins[k] = x at hx
  have hux : us[k]? = some x := by rw [hus k hk]; exact hx
  obtain ⟨c1, c2⟩ := actsI_cut us k x hux
  obtain ⟨o, a, b⟩ := x
  have c2 : List.take 3 (List.drop (k * 3) (us.flatMap actIC)) = [.int .i64 o, .int .i64 a, .int .i64 b] := c2
  have c3 : (us.flatMap actIC)[k * 3]? = some (.int .i64 o) := by
    have := congrArg (·[0]?) c2
    simpa [List.getElem?_take, List.getElem?_drop] using this
  have hkk : (0 : Int) ≤ (k : Int) ∧ (k : Int) < (c.ins.length : Int) := by omega
  have h1 : ¬ (k : Int) < 0 := by omega
  have h2 : ¬ (c.ins.length : Int) ≤ (k : Int) := by omega
  have w1 : IntKind.i64.wrap ((k : Int) + 1) = (k : Int) + 1 := wrap_i64 (by omega)
  have hjn : ¬ j = s.next := by omega
  rw [had]
  by_cases h32 : o = 32
  · subst h32
    simp -implicitDefEqProofs only [↓Zd, (Zp), if_true, if_false, ne_eq, implies_true, forall_const, Nat.reduceEqDiff, reduceIte, reduceCtorEq, Int.reduceEq, Int.reduceNeg, Int.reduceLE, Int.reduceLT, Nat.reduceAdd, Nat.reduceLeDiff, Int.reduceToNat, Nat.reduceMul, Nat.reduceBEq, okPart, Value.cells, cut, okCell, cld2, (BBx), vA, h1, h2, hkk, hjb, hjn, c1, c2, c3, Nat.add_zero, Nat.zero_add, decide_true, decide_false]
    exact hR _ none 0 0 [] (St.le_new (St.le_refl _)) (.inl ⟨rfl, rfl, rfl⟩) (.inl rfl)
  have l1 : s.le (((s.new (.cells [.int .i64 c.p, .int .i64 c.l, .int .i64 c.s, .int .i64 c.d, .slice (some ⟨j, 0, none⟩) c.ins.length c.cp] 38 true)).new (.cells [.int .i64 0, .int .i64 0, .int .i64 0] 41 true)).put (s.next + 1) (.cells [.int .i64 o, .int .i64 a, .int .i64 b] 41 true)) := (by repeat (first | exact St.le_refl _ | assumption | refine St.le_new ?_ | refine St.le_put ?_ (by first | omega | (simp only [St.next_new, St.next_put, St.next_kill]; omega)) | refine St.le_trans ?_ (by assumption)))
  have n1 : (((s.new (.cells [.int .i64 c.p, .int .i64 c.l, .int .i64 c.s, .int .i64 c.d, .slice (some ⟨j, 0, none⟩) c.ins.length c.cp] 38 true)).new (.cells [.int .i64 0, .int .i64 0, .int .i64 0] 41 true)).put (s.next + 1) (.cells [.int .i64 o, .int .i64 a, .int .i64 b] 41 true)).next = s.next + 2 := rfl
  have hjn2 : ¬ j = s.next + 1 := by omega
  by_cases h22 : o = 22
  · subst h22
    simp -implicitDefEqProofs only [↓Zd, (Zp), if_true, if_false, ne_eq, implies_true, forall_const, Nat.reduceEqDiff, reduceIte, reduceCtorEq, Int.reduceEq, Int.reduceNeg, Int.reduceLE, Int.reduceLT, Nat.reduceAdd, Nat.reduceLeDiff, Int.reduceToNat, Nat.reduceMul, Nat.reduceBEq, okPart, Value.cells, cut, okCell, cld2, (BBx), vA, h1, h2, hkk, hjb, hjn, hjn2, c1, c2, c3, rowI1, ze41, Nat.add_zero, Nat.zero_add, decide_true, decide_false]
    exact hR _ _ 1 _ [a] (St.le_new l1) (.inr ⟨_, rfl, by omega, by simp only [St.next_new]; omega, rfl, by rw [St.at_new, if_pos (by simp only [St.next_put, St.next_new])]; rfl⟩) (.inr (.inl ⟨_, hx, by show 22 ≤ (22 : Int); omega, by show (22 : Int) ≤ 25; omega, .inl rfl⟩))
  simp -implicitDefEqProofs only [↓Zd, (Zp), if_true, if_false, ne_eq, implies_true, forall_const, Nat.reduceEqDiff, reduceIte, reduceCtorEq, Int.reduceEq, Int.reduceNeg, Int.reduceLE, Int.reduceLT, Nat.reduceAdd, Nat.reduceLeDiff, Int.reduceToNat, Nat.reduceMul, Nat.reduceBEq, okPart, Value.cells, cut, okCell, cld2, (BBx), vA, h1, h2, hkk, hjb, hjn, hjn2, c1, c2, c3, h32, h22, rowI1, ze41, Nat.add_zero, Nat.zero_add, decide_true, decide_false, co13]
  refine goes_spec fun g hg => ?_
  cases g with
  | true =>
    simp -implicitDefEqProofs only [↓Zd, (Zp), if_true, if_false, ne_eq, implies_true, forall_const, Nat.reduceEqDiff, reduceIte, reduceCtorEq, Int.reduceEq, Int.reduceNeg, Int.reduceLE, Int.reduceLT, Nat.reduceAdd, Nat.reduceLeDiff, Int.reduceToNat, Nat.reduceMul, Nat.reduceBEq, okPart, Value.cells, cut, okCell, cld2, (BBx), vA, h1, w1, rowI2, Nat.add_zero, Nat.zero_add]
    exact hR _ _ 2 _ [(k : Int) + 1, a] (St.le_new l1) (.inr ⟨_, rfl, by omega, by simp only [St.next_new]; omega, rfl, by rw [St.at_new, if_pos (by simp only [St.next_put, St.next_new])]; rfl⟩) (.inr (.inl ⟨_, hx, (hg.1 rfl).1, (hg.1 rfl).2, .inr rfl⟩))
  | false =>
    simp -implicitDefEqProofs only [↓Zd, (Zp), if_true, if_false, ne_eq, implies_true, forall_const, Nat.reduceEqDiff, reduceIte, reduceCtorEq, Int.reduceEq, Int.reduceNeg, Int.reduceLE, Int.reduceLT, Nat.reduceAdd, Nat.reduceLeDiff, Int.reduceToNat, Nat.reduceMul, Nat.reduceBEq, okPart, Value.cells, cut, okCell, cld2, (BBx), vA, h1, w1, rowI1, Nat.add_zero, Nat.zero_add]
    exact hR _ _ 1 _ [(k : Int) + 1] (St.le_new l1) (.inr ⟨_, rfl, by omega, by simp only [St.next_new]; omega, rfl, by rw [St.at_new, if_pos (by simp only [St.next_put, St.next_new])]; rfl⟩) (.inr (.inr rfl))
end
end Go.Proofs.Tryz
