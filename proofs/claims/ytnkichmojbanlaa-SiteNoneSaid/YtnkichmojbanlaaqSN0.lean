/- Sites that are not there: the walks on them. A lemma file: no statement of its own. -/
import Derived.Test.YtnkichmojbanlaaqFwF
import Derived.Test.YtnkichmojbanlaaqST3
import Derived.Test.YtnkichmojbanlaaqHTw
import Derived.Test.YtnkichmojbanlaaqRowA17
import Derived.Test.YtnkichmojbanlaaqVEq
import Derived.Test.YtnkichmojbanlaaqSite0
import Derived.Test.YtnkichmojbanlaaqW17
set_option linter.unusedSimpArgs false
set_option linter.unusedVariables false
set_option linter.unusedSectionVars false
namespace Go.Proofs.Try
open Go.Cs
open Go.RowKit (Below)
set_option maxRecDepth 100000
attribute [local irreducible] CCalls WLoop WScope CRound WRange
section
variable {M : Type} [Mem M] {w0 : World} {s : St M} {R : Value → St M → Prop}
def DeadT (s : St M) (tv : Value) : Prop := tv = .pointer none ∨ ∃ z, tv = .pointer (some ⟨z, 0, none⟩) ∧ z < s.next ∧ s.at' z = some (.cells [.slice none 0 0, .int .i64 0, .int .i64 0] 26 true)
theorem xdead_spec {tv : Value} (h : DeadT s tv) (hR : R (.bool true) s) : CCalls Try.prog w0 25 #[tv] s R := by
  refine wfun2 hmix ok25 (l := [tv]) func25 rfl ntmps25 results25 (by simp) ?_
  rcases h with rfl | ⟨z, rfl, _, hz⟩
  · simp -implicitDefEqProofs only [↓Zd, (Zp), if_true, if_false, ne_eq, implies_true, forall_const, Nat.reduceEqDiff, reduceIte, reduceCtorEq, Int.reduceEq, Int.reduceNeg, Int.reduceLE, Int.reduceLT, Nat.reduceAdd, Nat.reduceLeDiff, Int.reduceToNat, Nat.reduceMul, Nat.reduceBEq, okPart, Value.cells, cut, okCell, cld2, (HEx), (STx), vA]
    exact hR
  · simp -implicitDefEqProofs only [↓Zd, (Zp), if_true, if_false, ne_eq, implies_true, forall_const, Nat.reduceEqDiff, reduceIte, reduceCtorEq, Int.reduceEq, Int.reduceNeg, Int.reduceLE, Int.reduceLT, Nat.reduceAdd, Nat.reduceLeDiff, Int.reduceToNat, Nat.reduceMul, Nat.reduceBEq, okPart, Value.cells, cut, okCell, cld2, (HEx), (STx), vA, hz]
    exact hR
theorem xflush_spec {tv : Value} {f : Int} (h : DeadT s tv) (hR : R (.tuple #[]) s) : CCalls Try.prog w0 8 #[tv, .int .i64 f] s R := by
  refine wfun2 hmix ok8 (l := [tv, .int .i64 f]) func8 rfl ntmps8 results8 (by simp) ?_
  have hf : ∃ a, tv = .pointer a := by rcases h with rfl | ⟨z, rfl, _⟩ <;> exact ⟨_, rfl⟩
  obtain ⟨a, rfl⟩ := hf
  simp -implicitDefEqProofs only [↓Zd, (Zp), if_true, if_false, ne_eq, implies_true, forall_const, Nat.reduceEqDiff, reduceIte, reduceCtorEq, Int.reduceEq, Int.reduceNeg, Int.reduceLE, Int.reduceLT, Nat.reduceAdd, Nat.reduceLeDiff, Int.reduceToNat, Nat.reduceMul, Nat.reduceBEq, okPart, Value.cells, cut, okCell, cld2, (HEx), (STx), vA, co25]
  refine xdead_spec h ?_
  simp -implicitDefEqProofs only [↓Zd, (Zp), if_true, if_false, ne_eq, implies_true, forall_const, Nat.reduceEqDiff, reduceIte, reduceCtorEq, Int.reduceEq, Int.reduceNeg, Int.reduceLE, Int.reduceLT, Nat.reduceAdd, Nat.reduceLeDiff, Int.reduceToNat, Nat.reduceMul, Nat.reduceBEq, okPart, Value.cells, cut, okCell, cld2, (HEx), (STx), vA]
  exact hR
theorem xmega_spec {tv : Value} {f : Int} (h : DeadT s tv) (hR : R (.tuple #[]) s) : CCalls Try.prog w0 9 #[tv, .int .i64 f] s R := by
  refine wfun2 hmix ok9 (l := [tv, .int .i64 f]) func9 rfl ntmps9 results9 (by simp) ?_
  have hf : ∃ a, tv = .pointer a := by rcases h with rfl | ⟨z, rfl, _⟩ <;> exact ⟨_, rfl⟩
  obtain ⟨a, rfl⟩ := hf
  simp -implicitDefEqProofs only [↓Zd, (Zp), if_true, if_false, ne_eq, implies_true, forall_const, Nat.reduceEqDiff, reduceIte, reduceCtorEq, Int.reduceEq, Int.reduceNeg, Int.reduceLE, Int.reduceLT, Nat.reduceAdd, Nat.reduceLeDiff, Int.reduceToNat, Nat.reduceMul, Nat.reduceBEq, okPart, Value.cells, cut, okCell, cld2, (HEx), (STx), vA, co25]
  refine xdead_spec h ?_
  simp -implicitDefEqProofs only [↓Zd, (Zp), if_true, if_false, ne_eq, implies_true, forall_const, Nat.reduceEqDiff, reduceIte, reduceCtorEq, Int.reduceEq, Int.reduceNeg, Int.reduceLE, Int.reduceLT, Nat.reduceAdd, Nat.reduceLeDiff, Int.reduceToNat, Nat.reduceMul, Nat.reduceBEq, okPart, Value.cells, cut, okCell, cld2, (HEx), (STx), vA]
  exact hR
theorem xfind_spec {tv : Value} {f k : Int} (h : DeadT s tv) (hR : R (.pointer none) s) : CCalls Try.prog w0 26 #[tv, .int .i64 f, .int .i64 k] s R := by
  refine wfun2 hmix ok26 (l := [tv, .int .i64 f, .int .i64 k]) func26 rfl ntmps26 results26 (by simp) ?_
  have hf : ∃ a, tv = .pointer a := by rcases h with rfl | ⟨z, rfl, _⟩ <;> exact ⟨_, rfl⟩
  obtain ⟨a, rfl⟩ := hf
  simp -implicitDefEqProofs only [↓Zd, (Zp), if_true, if_false, ne_eq, implies_true, forall_const, Nat.reduceEqDiff, reduceIte, reduceCtorEq, Int.reduceEq, Int.reduceNeg, Int.reduceLE, Int.reduceLT, Nat.reduceAdd, Nat.reduceLeDiff, Int.reduceToNat, Nat.reduceMul, Nat.reduceBEq, okPart, Value.cells, cut, okCell, cld2, (HEx), (STx), vA, co25]
  refine xdead_spec h ?_
  simp -implicitDefEqProofs only [↓Zd, (Zp), if_true, if_false, ne_eq, implies_true, forall_const, Nat.reduceEqDiff, reduceIte, reduceCtorEq, Int.reduceEq, Int.reduceNeg, Int.reduceLE, Int.reduceLT, Nat.reduceAdd, Nat.reduceLeDiff, Int.reduceToNat, Nat.reduceMul, Nat.reduceBEq, okPart, Value.cells, cut, okCell, cld2, (HEx), (STx), vA]
  exact hR
theorem xstate_spec {tv : Value} {f k : Int} (h : DeadT s tv) (hR : R (.tuple #[.int .i64 0, .slice none 0 0]) s) : CCalls Try.prog w0 14 #[tv, .int .i64 f, .int .i64 k] s R := by
  refine wfun2 hmix ok14 (l := [tv, .int .i64 f, .int .i64 k]) func14 rfl ntmps14 results14 (by simp) ?_
  have hf : ∃ a, tv = .pointer a := by rcases h with rfl | ⟨z, rfl, _⟩ <;> exact ⟨_, rfl⟩
  obtain ⟨a, rfl⟩ := hf
  simp -implicitDefEqProofs only [↓Zd, (Zp), if_true, if_false, ne_eq, implies_true, forall_const, Nat.reduceEqDiff, reduceIte, reduceCtorEq, Int.reduceEq, Int.reduceNeg, Int.reduceLE, Int.reduceLT, Nat.reduceAdd, Nat.reduceLeDiff, Int.reduceToNat, Nat.reduceMul, Nat.reduceBEq, okPart, Value.cells, cut, okCell, cld2, (HEx), (STx), vA, co26]
  refine xfind_spec h ?_
  simp -implicitDefEqProofs only [↓Zd, (Zp), if_true, if_false, ne_eq, implies_true, forall_const, Nat.reduceEqDiff, reduceIte, reduceCtorEq, Int.reduceEq, Int.reduceNeg, Int.reduceLE, Int.reduceLT, Nat.reduceAdd, Nat.reduceLeDiff, Int.reduceToNat, Nat.reduceMul, Nat.reduceBEq, okPart, Value.cells, cut, okCell, cld2, (HEx), (STx), vA]
  exact hR
theorem xname_spec {tv : Value} {f k : Int} (h : DeadT s tv) (hR : R (.tuple #[.string ⟨#[]⟩, .bool false, .bool false]) s) : CCalls Try.prog w0 15 #[tv, .int .i64 f, .int .i64 k] s R := by
  refine wfun2 hmix ok15 (l := [tv, .int .i64 f, .int .i64 k]) func15 rfl ntmps15 results15 (by simp) ?_
  have hf : ∃ a, tv = .pointer a := by rcases h with rfl | ⟨z, rfl, _⟩ <;> exact ⟨_, rfl⟩
  obtain ⟨a, rfl⟩ := hf
  simp -implicitDefEqProofs only [↓Zd, (Zp), if_true, if_false, ne_eq, implies_true, forall_const, Nat.reduceEqDiff, reduceIte, reduceCtorEq, Int.reduceEq, Int.reduceNeg, Int.reduceLE, Int.reduceLT, Nat.reduceAdd, Nat.reduceLeDiff, Int.reduceToNat, Nat.reduceMul, Nat.reduceBEq, okPart, Value.cells, cut, okCell, cld2, (HEx), (STx), vA, co26]
  refine xfind_spec h ?_
  simp -implicitDefEqProofs only [↓Zd, (Zp), if_true, if_false, ne_eq, implies_true, forall_const, Nat.reduceEqDiff, reduceIte, reduceCtorEq, Int.reduceEq, Int.reduceNeg, Int.reduceLE, Int.reduceLT, Nat.reduceAdd, Nat.reduceLeDiff, Int.reduceToNat, Nat.reduceMul, Nat.reduceBEq, okPart, Value.cells, cut, okCell, cld2, (HEx), (STx), vA]
  exact hR
theorem xcounts_spec {tv : Value} (h : DeadT s tv) (hR : R (.tuple #[.int .i64 0, .int .i64 0]) s) : CCalls Try.prog w0 16 #[tv] s R := by
  refine wfun2 hmix ok16 (l := [tv]) func16 rfl ntmps16 results16 (by simp) ?_
  rcases h with rfl | ⟨z, rfl, _, hz⟩
  · simp -implicitDefEqProofs only [↓Zd, (Zp), if_true, if_false, ne_eq, implies_true, forall_const, Nat.reduceEqDiff, reduceIte, reduceCtorEq, Int.reduceEq, Int.reduceNeg, Int.reduceLE, Int.reduceLT, Nat.reduceAdd, Nat.reduceLeDiff, Int.reduceToNat, Nat.reduceMul, Nat.reduceBEq, okPart, Value.cells, cut, okCell, cld2, (HEx), (STx), vA]
    exact hR
  · simp -implicitDefEqProofs only [↓Zd, (Zp), if_true, if_false, ne_eq, implies_true, forall_const, Nat.reduceEqDiff, reduceIte, reduceCtorEq, Int.reduceEq, Int.reduceNeg, Int.reduceLE, Int.reduceLT, Nat.reduceAdd, Nat.reduceLeDiff, Int.reduceToNat, Nat.reduceMul, Nat.reduceBEq, okPart, Value.cells, cut, okCell, cld2, (HEx), (STx), vA, hz, ord16]
    exact hR
theorem DeadT.same {s' : St M} {tv : Value} (h : DeadT s tv) (hn : s.next ≤ s'.next) (hs : ∀ c, c < s.next → tv = .pointer (some ⟨c, 0, none⟩) → s'.at' c = s.at' c) : DeadT s' tv := by
  rcases h with rfl | ⟨z, rfl, hz1, hz⟩
  · exact .inl rfl
  · exact .inr ⟨z, rfl, by omega, (hs z hz1 rfl).trans hz⟩
variable {lo p N : Nat} {H : Hp} {P : Nat → Prop}
theorem xget_spec {tv : Value} {f k o : Int} {x : ByteArray} (h : DeadT s tv) (hP : HpAt lo s p H N P) (ho : -9223372036854775808 ≤ o ∧ o ≤ 9223372036854775807) (hR : ∀ s' v, s.le s' → GetR H x o v → R (vOf v) s') :
    CCalls Try.prog w0 12 #[tv, .pointer (some ⟨p, 0, none⟩), .int .i64 f, .int .i64 k, .int .i64 o, .string x] s R := by
  refine wfun2 hmix ok12 (l := [tv, .pointer (some ⟨p, 0, none⟩), .int .i64 f, .int .i64 k, .int .i64 o, .string x]) func12 rfl ntmps12 results12 (by simp) ?_
  have hf : ∃ a, tv = .pointer a := by rcases h with rfl | ⟨z, rfl, _⟩ <;> exact ⟨_, rfl⟩
  obtain ⟨a, rfl⟩ := hf
  obtain ⟨_, tg, pf, pn, sl0, bs, hin⟩ := hP
  have l1 : s.le (s.new (.cells [.int .i64 0, .int .i64 0, .string ⟨#[]⟩] 37 true)) := St.le_new (St.le_refl _)
  simp -implicitDefEqProofs only [↓Zd, (Zp), if_true, if_false, ne_eq, implies_true, forall_const, Nat.reduceEqDiff, reduceIte, reduceCtorEq, Int.reduceEq, Int.reduceNeg, Int.reduceLE, Int.reduceLT, Nat.reduceAdd, Nat.reduceLeDiff, Int.reduceToNat, Nat.reduceMul, Nat.reduceBEq, okPart, Value.cells, cut, okCell, cld2, (HEx), (STx), vA, co25]
  refine xdead_spec (h.same l1.1 fun c hc _ => l1.2 c hc) ?_
  simp -implicitDefEqProofs only [↓Zd, (Zp), if_true, if_false, ne_eq, implies_true, forall_const, Nat.reduceEqDiff, reduceIte, reduceCtorEq, Int.reduceEq, Int.reduceNeg, Int.reduceLE, Int.reduceLT, Nat.reduceAdd, Nat.reduceLeDiff, Int.reduceToNat, Nat.reduceMul, Nat.reduceBEq, okPart, Value.cells, cut, okCell, cld2, (HEx), (STx), vA, co13]
  refine hget_spec (hin.le l1) ho fun s2 v l2 hv => ?_
  have n2 := l2.1
  simp only [St.next_new] at n2
  have c2 : s2.at' s.next = some (.cells [.int .i64 0, .int .i64 0, .string ⟨#[]⟩] 37 true) := by rw [l2.2 _ (by simp only [St.next_new]; omega), St.at_new, if_pos rfl]
  unfold vOf vA
  simp -implicitDefEqProofs only [↓Zd, (Zp), if_true, if_false, ne_eq, implies_true, forall_const, Nat.reduceEqDiff, reduceIte, reduceCtorEq, Int.reduceEq, Int.reduceNeg, Int.reduceLE, Int.reduceLT, Nat.reduceAdd, Nat.reduceLeDiff, Int.reduceToNat, Nat.reduceMul, Nat.reduceBEq, okPart, Value.cells, cut, okCell, cld2, (HEx), (STx), vA, c2]
  exact hR _ v (St.le_put (St.le_trans l1 l2) (by omega)) hv
theorem xset_spec {tv : Value} {f k o : Int} {x vy : ByteArray} {vk vn : Int} (h : DeadT s tv) (hP : HpAt lo s p H N P) (hlo : lo ≤ s.next) (hN : N + 3 ≤ 1000000) (h32 : 32 ≤ N) (ho : -9223372036854775808 ≤ o ∧ o ≤ 9223372036854775807)
    (hR : ∀ s' P', HpAt lo s' p (setH H o x (vk, vn, vy)) (N + 3) P' → Upd s s' P P' → R (.int .i64 (setE H o x)) s') :
    CCalls Try.prog w0 10 #[tv, .pointer (some ⟨p, 0, none⟩), .int .i64 f, .int .i64 k, .int .i64 o, .string x, vA vk vn vy] s R := by
  refine wfun2 hmix ok10 (l := [tv, .pointer (some ⟨p, 0, none⟩), .int .i64 f, .int .i64 k, .int .i64 o, .string x, vA vk vn vy]) func10 rfl ntmps10 results10 (by simp) ?_
  have hf : ∃ a, tv = .pointer a := by rcases h with rfl | ⟨z, rfl, _⟩ <;> exact ⟨_, rfl⟩
  obtain ⟨a, rfl⟩ := hf
  have l1 : s.le (s.new (.cells [.int .i64 vk, .int .i64 vn, .string vy] 37 true)) := St.le_new (St.le_refl _)
  simp -implicitDefEqProofs only [↓Zd, (Zp), if_true, if_false, ne_eq, implies_true, forall_const, Nat.reduceEqDiff, reduceIte, reduceCtorEq, Int.reduceEq, Int.reduceNeg, Int.reduceLE, Int.reduceLT, Nat.reduceAdd, Nat.reduceLeDiff, Int.reduceToNat, Nat.reduceMul, Nat.reduceBEq, okPart, Value.cells, cut, okCell, cld2, (HEx), (STx), vA, co25]
  refine xdead_spec (h.same l1.1 fun c hc _ => l1.2 c hc) ?_
  simp -implicitDefEqProofs only [↓Zd, (Zp), if_true, if_false, ne_eq, implies_true, forall_const, Nat.reduceEqDiff, reduceIte, reduceCtorEq, Int.reduceEq, Int.reduceNeg, Int.reduceLE, Int.reduceLT, Nat.reduceAdd, Nat.reduceLeDiff, Int.reduceToNat, Nat.reduceMul, Nat.reduceBEq, okPart, Value.cells, cut, okCell, cld2, (HEx), (STx), vA, co11]
  refine hset_spec (k := vk) (n := vn) (y := vy) (hP.le l1) (by simp only [St.next_new]; omega) hN h32 ho fun s2 P2 hP2 hU2 => ?_
  simp -implicitDefEqProofs only [↓Zd, (Zp), if_true, if_false, ne_eq, implies_true, forall_const, Nat.reduceEqDiff, reduceIte, reduceCtorEq, Int.reduceEq, Int.reduceNeg, Int.reduceLE, Int.reduceLT, Nat.reduceAdd, Nat.reduceLeDiff, Int.reduceToNat, Nat.reduceMul, Nat.reduceBEq, okPart, Value.cells, cut, okCell, cld2, (HEx), (STx), vA]
  exact hR s2 P2 hP2 ((Upd.of_le l1).trans hU2)
end
end Go.Proofs.Try
