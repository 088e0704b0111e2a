/- The walks of strings as they are written, in both texts. A lemma file: no statement of its own. -/
import Derived.Test.YtnkichmojbanlaaqFwF
import Derived.Test.YtnkichmojbanlaaqBld
import Derived.Test.YtnkichmojbanlaaqQuoteM
import Derived.Test.YtnkichmojbanlaaqDig0
set_option linter.unusedSimpArgs false
set_option linter.unusedVariables false
set_option linter.unusedSectionVars false
namespace Go.Proofs.Try
open Go.Cs
open Go.RowKit (Below)
set_option maxRecDepth 100000
attribute [local irreducible] CCalls WLoop WScope
section
variable {M : Type} [Mem M] {w0 : World} {s : St M} {R : Value → St M → Prop}
theorem plain_spec {c : UInt8} (h : R (.bool (plainB c)) s) : CCalls Try.prog w0 92 #[.int .u8 c.toNat] s R := by
  refine wfun2 hmix ok92 (l := [.int .u8 c.toNat]) func92 rfl ntmps92 results92 (by simp) ?_
  unfold plainB at h
  by_cases h1 : 32 ≤ (c.toNat : Int) <;> by_cases h2 : (c.toNat : Int) ≤ 126 <;> by_cases h3 : (c.toNat : Int) = 34 <;> by_cases h4 : (c.toNat : Int) = 92
  all_goals
    simp only [h1, h2, h3, h4, decide_true, decide_false, Bool.true_and, Bool.false_and, Bool.not_true, Bool.not_false, Bool.and_true, Bool.and_false] at h
    simp -implicitDefEqProofs only [↓Zd, (Zp), if_true, if_false, ne_eq, implies_true, forall_const, Nat.reduceEqDiff, reduceIte, reduceCtorEq, Int.reduceEq, Int.reduceNeg, Int.reduceLE, Int.reduceLT, Nat.reduceAdd, Nat.reduceLeDiff, Int.reduceToNat, Nat.reduceMul, Nat.reduceBEq, okPart, Value.cells, cut, okCell, cld2, underlying3, underlying4, underlying9, underlying5, underlying32, underlying0, be4, bn4, h1, h2, h3, h4]
    exact h
def quoteI (x : ByteArray) (s : St M) (p : Nat) (k : Nat) (env : Env) (s' : St M) : Prop := ∃ i : Nat, k = x.size - i ∧ i ≤ x.size ∧ env 9 = .int .i64 i ∧ BAt s s' p (34 :: (x.data.toList.take i).flatMap escB)
set_option maxHeartbeats 4000000 in
theorem quote_spec {x : ByteArray} (hx : x.size ≤ 1000000) (h : ∀ s', s.le s' → R (.string (quoteS x)) s') : CCalls Try.prog w0 79 #[.string x] s R := by
  refine wfun2 hmix ok79 (l := [.string x]) func79 rfl ntmps79 results79 (by simp) ?_
  simp -implicitDefEqProofs only [↓Zd, (Zp), if_true, if_false, ne_eq, implies_true, forall_const, Nat.reduceEqDiff, reduceIte, reduceCtorEq, Int.reduceEq, Int.reduceNeg, Int.reduceLE, Int.reduceLT, Nat.reduceAdd, Nat.reduceLeDiff, Int.reduceToNat, Nat.reduceMul, Nat.reduceBEq, okPart, Value.cells, cut, okCell, cld2, underlying3, underlying4, underlying9, underlying5, underlying32, underlying0, be4, bn4, underlying115, ze112, co53]
  have hB0 : BAt s (s.new (.cells [.pointer none, .slice none 0 0] 112 true)) s.next [] := ⟨St.le_new (St.le_refl s), Nat.le_refl _, by simp, _, _, by simp, .inl rfl, .inl ⟨rfl, rfl⟩⟩
  refine writeByte_spec (c := 34) hB0 (by simp) fun s1 hB1 => ?_
  simp -implicitDefEqProofs only [↓Zd, (Zp), if_true, if_false, ne_eq, implies_true, forall_const, Nat.reduceEqDiff, reduceIte, reduceCtorEq, Int.reduceEq, Int.reduceNeg, Int.reduceLE, Int.reduceLT, Nat.reduceAdd, Nat.reduceLeDiff, Int.reduceToNat, Nat.reduceMul, Nat.reduceBEq, okPart, Value.cells, cut, okCell, cld2, underlying3, underlying4, underlying9, underlying5, underlying32, underlying0, be4, bn4, underlying115]
  refine wloop_fix hmix [10, 11, 4, 12, 13, 14, 5, 25, 26, 24, 27, 28, 30, 31, 32, 33, 34, 35, 29, 36, 37, 38, 15, 16, 17, 18, 19, 20, 21, 22, 23, 39, 9] (quoteI x s s.next) (x.size - 0) ?_ ?_
  · exact ⟨0, rfl, by omega, rfl, by simpa using hB1⟩
  · rintro k env s' hF ⟨i, rfl, hi, e9, hB⟩
    have e0 : env 0 = .string x := by rw [hF 0 rfl]; rfl
    have e3 : env 3 = .pointer (some ⟨s.next, 0, none⟩) := by rw [hF 3 rfl]; rfl
    have e8 : env 8 = .int .i64 x.size := by rw [hF 8 rfl]; rfl
    have hlen : (34 :: (x.data.toList.take i).flatMap escB).length ≤ 4000001 := by
      have h1 := flat_len (x.data.toList.take i)
      have h2 : (x.data.toList.take i).length ≤ i := List.length_take_le _ _
      simp only [List.length_cons]; omega
    by_cases hlt : i < x.size
    · obtain ⟨c, hc, ht⟩ := byte_at' hlt
      have hlt' : (i : Int) < (x.size : Int) := by omega
      have h0 : (0 : Int) ≤ (i : Int) := by omega
      have w7 : IntKind.i64.wrap ((i : Int) + 1) = ((i + 1 : Nat) : Int) := by rw [wrap_i64 (by omega)]; omega
      have hnext : ∀ {env' : Env} {s2 : St M}, env' 9 = .int .i64 ((i + 1 : Nat) : Int) → BAt s s2 s.next ((34 :: (x.data.toList.take i).flatMap escB) ++ escB c) →
          ∃ m, m < x.size - i ∧ quoteI x s s.next m env' s2 := by
        intro env' s2 h9 hB2
        refine ⟨x.size - (i + 1), by omega, i + 1, rfl, by omega, h9, ?_⟩
        rw [ht, List.flatMap_append]
        simpa using hB2
      simp -implicitDefEqProofs only [↓Zd, (Zp), if_true, if_false, ne_eq, implies_true, forall_const, Nat.reduceEqDiff, reduceIte, reduceCtorEq, Int.reduceEq, Int.reduceNeg, Int.reduceLE, Int.reduceLT, Nat.reduceAdd, Nat.reduceLeDiff, Int.reduceToNat, Nat.reduceMul, Nat.reduceBEq, okPart, Value.cells, cut, okCell, cld2, underlying3, underlying4, underlying9, underlying5, underlying32, underlying0, be4, bn4, underlying115, e0, e3, e8, e9, hlt', h0, hc, co92]
      refine plain_spec ?_
      by_cases hp : plainB c = true
      · have he : escB c = [c] := by simp [escB, hp]
        rw [hp]
        simp -implicitDefEqProofs only [↓Zd, (Zp), if_true, if_false, ne_eq, implies_true, forall_const, Nat.reduceEqDiff, reduceIte, reduceCtorEq, Int.reduceEq, Int.reduceNeg, Int.reduceLE, Int.reduceLT, Nat.reduceAdd, Nat.reduceLeDiff, Int.reduceToNat, Nat.reduceMul, Nat.reduceBEq, okPart, Value.cells, cut, okCell, cld2, underlying3, underlying4, underlying9, underlying5, underlying32, underlying0, be4, bn4, underlying115, e3, co53]
        refine writeByte_spec hB (by omega) fun s2 hB2 => ?_
        simp -implicitDefEqProofs only [↓Zd, (Zp), if_true, if_false, ne_eq, implies_true, forall_const, Nat.reduceEqDiff, reduceIte, reduceCtorEq, Int.reduceEq, Int.reduceNeg, Int.reduceLE, Int.reduceLT, Nat.reduceAdd, Nat.reduceLeDiff, Int.reduceToNat, Nat.reduceMul, Nat.reduceBEq, okPart, Value.cells, cut, okCell, cld2, underlying3, underlying4, underlying9, underlying5, underlying32, underlying0, be4, bn4, underlying115, e9, w7]
        refine ⟨?_, hnext rfl (by rw [he]; exact hB2)⟩
        repeat (first | exact hF | refine Fix.upd (by decide) ?_)
      · have hp' : plainB c = false := by simpa using hp
        rw [hp']
        by_cases hq : (c.toNat : Int) = 34 ∨ (c.toNat : Int) = 92
        · have he : escB c = [92, c] := by simp only [escB, hp', Bool.false_eq_true, if_false, if_pos hq]
          have hq' : decide ((c.toNat : Int) = 34) = true ∨ (decide ((c.toNat : Int) = 34) = false ∧ decide ((c.toNat : Int) = 92) = true) := by
            by_cases h1 : (c.toNat : Int) = 34
            · exact .inl (by simpa using h1)
            · exact .inr ⟨by simpa using h1, by rcases hq with h2 | h2; exact absurd h2 h1; simpa using h2⟩
          rcases hq' with h1 | ⟨h1, h2⟩
          all_goals
            simp -implicitDefEqProofs only [↓Zd, (Zp), if_true, if_false, ne_eq, implies_true, forall_const, Nat.reduceEqDiff, reduceIte, reduceCtorEq, Int.reduceEq, Int.reduceNeg, Int.reduceLE, Int.reduceLT, Nat.reduceAdd, Nat.reduceLeDiff, Int.reduceToNat, Nat.reduceMul, Nat.reduceBEq, okPart, Value.cells, cut, okCell, cld2, underlying3, underlying4, underlying9, underlying5, underlying32, underlying0, be4, bn4, underlying115, e3, co53, h1]
            try simp -implicitDefEqProofs only [↓Zd, (Zp), if_true, if_false, ne_eq, implies_true, forall_const, Nat.reduceEqDiff, reduceIte, reduceCtorEq, Int.reduceEq, Int.reduceNeg, Int.reduceLE, Int.reduceLT, Nat.reduceAdd, Nat.reduceLeDiff, Int.reduceToNat, Nat.reduceMul, Nat.reduceBEq, okPart, Value.cells, cut, okCell, cld2, underlying3, underlying4, underlying9, underlying5, underlying32, underlying0, be4, bn4, underlying115, e3, co53, h2]
            refine writeByte_spec (c := 92) hB (by omega) fun s2 hB2 => ?_
            simp -implicitDefEqProofs only [↓Zd, (Zp), if_true, if_false, ne_eq, implies_true, forall_const, Nat.reduceEqDiff, reduceIte, reduceCtorEq, Int.reduceEq, Int.reduceNeg, Int.reduceLE, Int.reduceLT, Nat.reduceAdd, Nat.reduceLeDiff, Int.reduceToNat, Nat.reduceMul, Nat.reduceBEq, okPart, Value.cells, cut, okCell, cld2, underlying3, underlying4, underlying9, underlying5, underlying32, underlying0, be4, bn4, underlying115, e3, co53]
            refine writeByte_spec hB2 (by simp only [List.length_append, List.length_cons, List.length_nil] at hlen ⊢; omega) fun s3 hB3 => ?_
            simp -implicitDefEqProofs only [↓Zd, (Zp), if_true, if_false, ne_eq, implies_true, forall_const, Nat.reduceEqDiff, reduceIte, reduceCtorEq, Int.reduceEq, Int.reduceNeg, Int.reduceLE, Int.reduceLT, Nat.reduceAdd, Nat.reduceLeDiff, Int.reduceToNat, Nat.reduceMul, Nat.reduceBEq, okPart, Value.cells, cut, okCell, cld2, underlying3, underlying4, underlying9, underlying5, underlying32, underlying0, be4, bn4, underlying115, e9, w7]
            refine ⟨?_, hnext rfl (by rw [he]; simpa using hB3)⟩
            repeat (first | exact hF | refine Fix.upd (by decide) ?_)
        · have h1 : ¬ (c.toNat : Int) = 34 := fun e => hq (.inl e)
          have h2 : ¬ (c.toNat : Int) = 92 := fun e => hq (.inr e)
          have he : escB c = [92, 120, hexB (c.toNat / 16), hexB (c.toNat % 16)] := by simp only [escB, hp', Bool.false_eq_true, if_false, if_neg hq]
          have hc255 : c.toNat ≤ 255 := by have := c.toNat_lt; omega
          have w8 : (c.toNat : Int).fdiv 16 = ((c.toNat / 16 : Nat) : Int) := by rw [Int.fdiv_eq_ediv_of_nonneg _ (by omega)]; omega
          have hx1 := hex_at (n := c.toNat / 16) (by omega)
          have hx2 := hex_at (n := c.toNat % 16) (by omega)
          have h3 : (0 : Int) ≤ ((c.toNat / 16 : Nat) : Int) := by omega
          have h4 : (0 : Int) ≤ ((c.toNat % 16 : Nat) : Int) := by omega
          unfold hexS at hx1 hx2
          simp -implicitDefEqProofs only [↓Zd, (Zp), if_true, if_false, ne_eq, implies_true, forall_const, Nat.reduceEqDiff, reduceIte, reduceCtorEq, Int.reduceEq, Int.reduceNeg, Int.reduceLE, Int.reduceLT, Nat.reduceAdd, Nat.reduceLeDiff, Int.reduceToNat, Nat.reduceMul, Nat.reduceBEq, okPart, Value.cells, cut, okCell, cld2, underlying3, underlying4, underlying9, underlying5, underlying32, underlying0, be4, bn4, underlying115, underlying116, e3, co46, h1, h2]
          refine writeString_spec (x := ⟨#[92, 120]⟩) hB (by omega) (by simp) (by decide) fun s2 hB2 => ?_
          simp -implicitDefEqProofs only [↓Zd, (Zp), if_true, if_false, ne_eq, implies_true, forall_const, Nat.reduceEqDiff, reduceIte, reduceCtorEq, Int.reduceEq, Int.reduceNeg, Int.reduceLE, Int.reduceLT, Nat.reduceAdd, Nat.reduceLeDiff, Int.reduceToNat, Nat.reduceMul, Nat.reduceBEq, okPart, Value.cells, cut, okCell, cld2, underlying3, underlying4, underlying9, underlying5, underlying32, underlying0, be4, bn4, underlying115, underlying116, e3, co53, w8, hx1, h3, IntKind.bits, Nat.reduceLeDiff, Nat.min_eq_left, Int.reducePow]
          refine writeByte_spec hB2 (by simp only [List.length_append, List.length_cons, List.length_nil] at hlen ⊢; omega) fun s3 hB3 => ?_
          simp -implicitDefEqProofs only [↓Zd, (Zp), if_true, if_false, ne_eq, implies_true, forall_const, Nat.reduceEqDiff, reduceIte, reduceCtorEq, Int.reduceEq, Int.reduceNeg, Int.reduceLE, Int.reduceLT, Nat.reduceAdd, Nat.reduceLeDiff, Int.reduceToNat, Nat.reduceMul, Nat.reduceBEq, okPart, Value.cells, cut, okCell, cld2, underlying3, underlying4, underlying9, underlying5, underlying32, underlying0, be4, bn4, underlying115, e3, co53, ↓o_and, ↓wb_and, and15, hx2, h4]
          refine writeByte_spec hB3 (by simp only [List.length_append, List.length_cons, List.length_nil] at hlen ⊢; omega) fun s4 hB4 => ?_
          simp -implicitDefEqProofs only [↓Zd, (Zp), if_true, if_false, ne_eq, implies_true, forall_const, Nat.reduceEqDiff, reduceIte, reduceCtorEq, Int.reduceEq, Int.reduceNeg, Int.reduceLE, Int.reduceLT, Nat.reduceAdd, Nat.reduceLeDiff, Int.reduceToNat, Nat.reduceMul, Nat.reduceBEq, okPart, Value.cells, cut, okCell, cld2, underlying3, underlying4, underlying9, underlying5, underlying32, underlying0, be4, bn4, underlying115, e9, w7]
          refine ⟨?_, hnext rfl (by rw [he]; simpa using hB4)⟩
          repeat (first | exact hF | refine Fix.upd (by decide) ?_)
    · have hlt' : ¬ (i : Int) < (x.size : Int) := by omega
      have htk : x.data.toList.take i = x.data.toList := List.take_of_length_le (by simp; omega)
      rw [htk] at hB hlen
      simp -implicitDefEqProofs only [↓Zd, (Zp), if_true, if_false, ne_eq, implies_true, forall_const, Nat.reduceEqDiff, reduceIte, reduceCtorEq, Int.reduceEq, Int.reduceNeg, Int.reduceLE, Int.reduceLT, Nat.reduceAdd, Nat.reduceLeDiff, Int.reduceToNat, Nat.reduceMul, Nat.reduceBEq, okPart, Value.cells, cut, okCell, cld2, underlying3, underlying4, underlying9, underlying5, underlying32, underlying0, be4, bn4, underlying115, e3, e8, e9, hlt', co53]
      refine writeByte_spec (c := 34) hB (by omega) fun s2 hB2 => ?_
      simp -implicitDefEqProofs only [↓Zd, (Zp), if_true, if_false, ne_eq, implies_true, forall_const, Nat.reduceEqDiff, reduceIte, reduceCtorEq, Int.reduceEq, Int.reduceNeg, Int.reduceLE, Int.reduceLT, Nat.reduceAdd, Nat.reduceLeDiff, Int.reduceToNat, Nat.reduceMul, Nat.reduceBEq, okPart, Value.cells, cut, okCell, cld2, underlying3, underlying4, underlying9, underlying5, underlying32, underlying0, be4, bn4, underlying115, e3, co54]
      refine string_spec hB2 (by simp only [List.length_append, List.length_cons, List.length_nil] at hlen ⊢; omega) fun s3 hs3 => ?_
      simp -implicitDefEqProofs only [↓Zd, (Zp), if_true, if_false, ne_eq, implies_true, forall_const, Nat.reduceEqDiff, reduceIte, reduceCtorEq, Int.reduceEq, Int.reduceNeg, Int.reduceLE, Int.reduceLT, Nat.reduceAdd, Nat.reduceLeDiff, Int.reduceToNat, Nat.reduceMul, Nat.reduceBEq, okPart, Value.cells, cut, okCell, cld2, underlying3, underlying4, underlying9, underlying5, underlying32, underlying0, be4, bn4]
      have := h s3 hs3
      unfold quoteS quoteL at this
      simpa using this
end
end Go.Proofs.Try
