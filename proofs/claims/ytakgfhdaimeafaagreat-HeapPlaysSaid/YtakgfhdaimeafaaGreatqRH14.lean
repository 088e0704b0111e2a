/- The document's heaps: the walk of New. A lemma file: no statement of its own. -/
import Derived.Test.YtakgfhdaimeafaaGreatqFwF
import Derived.Test.YtakgfhdaimeafaaGreatqRH13
set_option linter.unusedSimpArgs false
set_option linter.unusedVariables false
set_option linter.unusedSectionVars false
namespace Go.Proofs.Tryz
open Go.Cs
open Go.RowKit (Below)
set_option maxRecDepth 100000
attribute [local irreducible] CCalls WLoop WScope CRound WRange
section
variable {M : Type} [Mem M] {w0 : World} {s : St M} {R : Value → St M → Prop}
theorem rcut_spec {a m : Int} (hm : 0 ≤ m) (h : R (.int .i64 (max 0 (min a m))) s) : CCalls Tryz.prog w0 41 #[.int .i64 a, .int .i64 m] s R := by
  refine wfun2 hmix ok41 (l := [.int .i64 a, .int .i64 m]) func41 rfl ntmps41 results41 (by simp) ?_
  by_cases h1 : a < 0
  · rw [show max 0 (min a m) = 0 by omega] at h
    simp -implicitDefEqProofs only [↓Zd, (Zp), if_true, if_false, Nat.reduceEqDiff, reduceCtorEq, h1]
    exact h
  · by_cases h2 : m < a
    · rw [show max 0 (min a m) = m by omega] at h
      simp -implicitDefEqProofs only [↓Zd, (Zp), if_true, if_false, Nat.reduceEqDiff, reduceCtorEq, h1, h2]
      exact h
    · rw [show max 0 (min a m) = a by omega] at h
      simp -implicitDefEqProofs only [↓Zd, (Zp), if_true, if_false, Nat.reduceEqDiff, reduceCtorEq, h1, h2]
      exact h
theorem rfnew_spec {n : Int} (h : R (.pointer (some ⟨s.next, 0, none⟩)) (s.new (.cells [.slice none 0 0, .int .i64 (max 0 (min n 150))] 137 true))) : CCalls Tryz.prog w0 42 #[.int .i64 n] s R := by
  refine wfun2 hmix ok42 (l := [.int .i64 n]) func42 rfl ntmps42 results42 (by simp) ?_
  have hbF : ∀ v : Int, cbuild Tryz.prog 137 #[(1, .int .i64 v)] = some (.agg #[.slice none 0 0, .int .i64 v]) := fun v => by kernel_rfl
  by_cases h1 : n < 0
  · rw [show max 0 (min n 150) = 0 by omega] at h
    have h2 : ¬ (150 : Int) < 0 := by omega
    simp -implicitDefEqProofs only [↓Zd, (Zp), if_true, if_false, Nat.reduceEqDiff, reduceCtorEq, okPart, Value.cells, (REx), h1, h2, hbF]
    exact h
  · by_cases h2 : 150 < n
    · rw [show max 0 (min n 150) = 150 by omega] at h
      simp -implicitDefEqProofs only [↓Zd, (Zp), if_true, if_false, Nat.reduceEqDiff, reduceCtorEq, okPart, Value.cells, (REx), h1, h2, hbF]
      exact h
    · rw [show max 0 (min n 150) = n by omega] at h
      simp -implicitDefEqProofs only [↓Zd, (Zp), if_true, if_false, Nat.reduceEqDiff, reduceCtorEq, okPart, Value.cells, (REx), h1, h2, hbF]
      exact h
set_option maxHeartbeats 8000000 in
theorem rnew_spec {a b c d n : Int} (h : ∀ s' p, RHpAt s.next s' p (newH a c n) 0 (fun b => s.next ≤ b ∧ b < s'.next) → s.le s' → R (.pointer (some ⟨p, 0, none⟩)) s') : CCalls Tryz.prog w0 11 #[.agg #[.int .i64 a, .int .i64 b, .int .i64 c, .int .i64 d], .int .i64 n] s R := by
  refine wfun2 hmix ok11 (l := [.agg #[.int .i64 a, .int .i64 b, .int .i64 c, .int .i64 d], .int .i64 n]) func11 rfl ntmps11 results11 (by simp) ?_
  have hbH : ∀ (e g : Int) (f : Nat), cbuild Tryz.prog 78 #[(1, .int .i64 e), (2, .int .i64 g), (3, .pointer (some ⟨f, 0, none⟩))] = some (.agg #[.slice none 0 0, .int .i64 e, .int .i64 g, .pointer (some ⟨f, 0, none⟩), .slice none 0 0]) := fun e g f => by kernel_rfl
  simp -implicitDefEqProofs only [↓Zd, (Zp), if_true, if_false, Nat.reduceEqDiff, okPart, Value.cells, cld2, (HEx), is27, fa27x0, fa27x2, ord11, co41]
  refine rcut_spec (by omega) ?_
  simp -implicitDefEqProofs only [↓Zd, (Zp), if_true, if_false, Nat.reduceEqDiff, Nat.reduceBEq, cld2, (HEx), co41]
  refine rcut_spec (by omega) ?_
  simp -implicitDefEqProofs only [↓Zd, (Zp), if_true, if_false, Nat.reduceEqDiff, Nat.reduceBEq, (HEx), co42]
  refine rfnew_spec ?_
  simp -implicitDefEqProofs only [↓Zd, (Zp), if_true, if_false, Nat.reduceEqDiff, Nat.reduceAdd, okPart, Value.cells, (REx), hbH]
  have e1 : ((newH a c n).maxO : Int) = max 0 (min a 200) := by simp only [newH]; omega
  have e2 : ((newH a c n).maxP : Int) = max 0 (min c 32) := by simp only [newH]; omega
  have e3 : ((newH a c n).most : Int) = max 0 (min n 150) := by simp only [newH]; omega
  have e4 : (newH a c n).most ≤ 150 := by omega
  refine h _ _ ⟨newH_pro a c n, (fun c => if c = s.next + 1 then 1 else 0), s.next + 1, .slice none 0 0, .slice none 0 0, [], ⟨fun b hb => hb, newH_ok a c n, Nat.zero_le _, ⟨⟨by omega, by simp only [St.next_new]; omega⟩, by rw [if_neg (by omega)]⟩, ?_, .inl ⟨rfl, rfl, rfl⟩, (fun q n c e => by cases e), ⟨fun b hb => hb.1, ⟨⟨by omega, by simp only [St.next_new]; omega⟩, by rw [if_pos rfl]⟩, FOk.nil, ⟨Nat.zero_le _, e4⟩, .slice none 0 0, fun _ => .slice none 0 0, ?_, .inl ⟨rfl, rfl, rfl⟩, (fun q n c e => by cases e), fun i t ht => by simp [newH] at ht⟩, .inl ⟨rfl, rfl, rfl⟩, (fun q n c e => by cases e), rfl, fun i b o hb _ => by simp at hb⟩⟩ (by repeat (first | exact St.le_refl _ | assumption | refine St.le_new ?_ | refine St.le_put ?_ (by first | omega | (simp only [St.next_new, St.next_put, St.next_kill]; omega)) | refine St.le_trans ?_ (by assumption)))
  · rw [St.at_new, if_pos (by simp only [St.next_new]), e1, e2]
  · rw [St.at_new, if_neg (by simp only [St.next_new]; omega), St.at_new, if_pos (by simp only [St.next_new]), e3]
end
end Go.Proofs.Tryz
