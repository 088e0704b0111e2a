/- The walk of the law of what comes of right values. A lemma file: no statement of its own. -/
import Derived.Test.YtlijgnofegjnmaaFwF
import Derived.Test.YtlijgnofegjnmaaOpsF
set_option linter.unusedSimpArgs false
set_option linter.unusedVariables false
set_option linter.unusedSectionVars false
namespace Go.Proofs.Try
open Go.Cs
open Go.RowKit (Below)
set_option maxRecDepth 100000
attribute [local irreducible] CCalls WLoop WScope

theorem zero_right : rightV 0 0 ⟨#[]⟩ = true := by simp [rightV]
theorem bool_right (b : Bool) : rightV 1 (boolN b) ⟨#[]⟩ = true := by cases b <;> simp [rightV, boolN]
theorem w63_right (n : Int) : rightV 2 (w63 n) ⟨#[]⟩ = true := by
  have hm : -4611686018427387904 ≤ w63 n ∧ w63 n ≤ 4611686018427387903 := by unfold w63; omega
  simp only [rightV, show ¬ ((2 : Int) = 3) by omega, show ¬ ((2 : Int) = 1) by omega, if_true, if_false, Bool.and_eq_true, decide_eq_true_eq]
  exact ⟨trivial, hm⟩
theorem mod_right {a : Int} (b : Int) (h : -4611686018427387904 ≤ a ∧ a ≤ 4611686018427387903) : rightV 2 (modN a b) ⟨#[]⟩ = true := by
  have hm : -4611686018427387904 ≤ modN a b ∧ modN a b ≤ 4611686018427387903 := by
    unfold modN
    split
    · omega
    split
    · omega
    split
    · omega
    have h1 := Int.natAbs_tmod a b
    have h2 := Nat.mod_le a.natAbs b.natAbs
    rcases Int.le_total 0 a with h3 | h3
    · have := Int.tmod_nonneg b h3
      omega
    · have := Int.tmod_nonneg (a := -a) b (by omega)
      rw [Int.neg_tmod] at this
      omega
  simp only [rightV, show ¬ ((2 : Int) = 3) by omega, show ¬ ((2 : Int) = 1) by omega, if_true, if_false, Bool.and_eq_true, decide_eq_true_eq]
  exact ⟨trivial, hm⟩
theorem right_int {n : Int} {x : ByteArray} (h : rightV 2 n x = true) : -4611686018427387904 ≤ n ∧ n ≤ 4611686018427387903 := by
  simp only [rightV, show ¬ ((2 : Int) = 3) by omega, show ¬ ((2 : Int) = 1) by omega, if_true, if_false, Bool.and_eq_true, decide_eq_true_eq] at h
  exact h.2
theorem right_size {k n : Int} {x : ByteArray} (h : rightV k n x = true) : x.size ≤ 256 := by
  unfold rightV at h
  split at h
  · simp only [Bool.and_eq_true, decide_eq_true_eq] at h; exact h.1
  · simp only [Bool.and_eq_true, decide_eq_true_eq] at h
    rw [h.1]; decide
theorem right_i64 {k n : Int} {x : ByteArray} (h : I64 n) : -9223372036854775808 ≤ n ∧ n ≤ 9223372036854775807 := h

def RightT (t : Value) : Prop := ∃ a b y e, t = .tuple #[vA a b y, .int .i64 e] ∧ rightV a b y = true ∧ (e = 0 ∨ (a = 0 ∧ b = 0 ∧ y = ⟨#[]⟩))
theorem right_err (e : Int) : RightT (.tuple #[vA 0 0 ⟨#[]⟩, .int .i64 e]) := ⟨_, _, _, _, rfl, zero_right, .inr ⟨rfl, rfl, rfl⟩⟩
theorem right_bool (b : Bool) : RightT (.tuple #[vA 1 (boolN b) ⟨#[]⟩, .int .i64 0]) := ⟨_, _, _, _, rfl, bool_right b, .inl rfl⟩
theorem right_whole {m : Int} (h : rightV 2 m ⟨#[]⟩ = true) (e : Int) : RightT (.tuple #[wholeV m e, .int .i64 e]) := by
  unfold wholeV
  split
  · exact ⟨_, _, _, _, rfl, h, .inl ‹_›⟩
  · exact right_err e

theorem bin_right {op k n k' n' : Int} {x x' : ByteArray} (h : rightV k n x = true) (h' : rightV k' n' x' = true) : RightT (binV op k n x k' n' x' 256) := by
  unfold binV
  split
  · exact right_err _
  split
  · exact right_bool _
  split
  · exact right_bool _
  split
  · split
    · unfold joinV
      split
      · exact right_err _
      · rename_i hj
        refine ⟨_, _, _, _, rfl, ?_, .inl rfl⟩
        have : (x ++ x').size = x.size + x'.size := ByteArray.size_append
        simp only [rightV, if_true, Bool.and_eq_true, decide_eq_true_eq]
        exact ⟨by omega, trivial⟩
    split
    · exact right_err _
    · exact right_bool _
  split
  · rename_i hk
    obtain ⟨rfl, rfl⟩ := hk
    split
    · have hm : rightV 2 (mathN op n n').1 ⟨#[]⟩ = true := by
        rcases (show op = 1 ∨ op = 2 ∨ op = 3 ∨ op = 4 ∨ op = 5 by omega) with rfl | rfl | rfl | rfl | rfl
        · exact w63_right _
        · exact w63_right _
        · exact w63_right _
        · show rightV 2 (divN n n') ⟨#[]⟩ = true
          unfold divN
          split
          · simp [rightV]
          split
          · exact w63_right _
          · exact w63_right _
        · exact mod_right _ (right_int h)
      exact right_whole hm _
    · exact right_bool _
  · exact right_err _

theorem un_right {op k n : Int} {x : ByteArray} : RightT (unV op k n) := by
  unfold unV
  split
  · split
    · exact ⟨_, _, _, _, rfl, w63_right _, .inl rfl⟩
    · exact right_err _
  split
  · exact right_bool _
  · exact right_err _

theorem text_right {k n : Int} {x : ByteArray} (hn : I64 n) (h : rightV k n x = true) : textV k n x 256 = .tuple #[vA 3 0 (showV k n x), .int .i64 0] ∧ rightV 3 0 (showV k n x) = true := by
  have hs : (showV k n x).size ≤ 256 := by
    unfold showV
    split
    · decide
    split
    · split <;> decide
    split
    · have := digS_len hn; omega
    split
    · exact right_size h
    split
    · decide
    split <;> decide
  refine ⟨?_, ?_⟩
  · unfold textV
    rw [if_neg (by omega)]
  · simp only [rightV, if_true, Bool.and_eq_true, decide_eq_true_eq]
    exact ⟨hs, trivial⟩

section
variable {M : Type} [Mem M] {w0 : World} {s : St M} {R : Value → St M → Prop}

set_option maxHeartbeats 16000000 in
theorem opsRight_spec {op k n k' n' : Int} {x x' : ByteArray} (hn : I64 n) (hn' : I64 n') (h : ∀ s', R (.bool true) s') : CCalls Try.prog w0 9 #[.int .i64 op, vA k n x, vA k' n' x'] s R := by
  refine wfun2 hmix ok9 (l := [.int .i64 op, vA k n x, vA k' n' x']) func9 rfl ntmps9 results9 (by simp) ?_
  have d0 : ¬ s.next = s.next + 1 + 1 := by omega
  simp -implicitDefEqProofs only [↓Zd, (Zp), if_true, if_false, ne_eq, implies_true, forall_const, Nat.reduceEqDiff, reduceIte, reduceCtorEq, Int.reduceEq, Int.reduceNeg, Int.reduceLE, Int.reduceLT, Nat.reduceAdd, Nat.reduceLeDiff, Int.reduceToNat, Nat.reduceMul, Nat.reduceBEq, okPart, Value.cells, cut, okCell, cld2, underlying3, underlying4, underlying9, underlying23, vA, is23, ag23, ce23, fa23x0, fa23x1, fa23x2, ag3, ce3, ag9, ce9, underlying3, underlying4, underlying9, underlying5, underlying26, underlying0, be4, bn4, bv0, bv1, bv2, bv3, ze23, sz23, sz3, underlying27, underlying29, underlying51, underlying56, d0, ord9, co14]
  refine rright_le hn fun s1 hs1 => ?_
  have n1 : s.next + 2 ≤ s1.next := by have := hs1.1; (try simp only [St.next_new, St.next_put] at this); omega
  by_cases hr : rightV k n x = true
  case neg =>
    have : rightV k n x = false := by simpa using hr
    rw [this]
    simp -implicitDefEqProofs only [↓Zd, (Zp), if_true, if_false, ne_eq, implies_true, forall_const, Nat.reduceEqDiff, reduceIte, reduceCtorEq, Int.reduceEq, Int.reduceNeg, Int.reduceLE, Int.reduceLT, Nat.reduceAdd, Nat.reduceLeDiff, Int.reduceToNat, Nat.reduceMul, Nat.reduceBEq, okPart, Value.cells, cut, okCell, cld2, underlying3, underlying4, underlying9, underlying23, vA, is23, ag23, ce23, fa23x0, fa23x1, fa23x2, ag3, ce3, ag9, ce9, underlying3, underlying4, underlying9, underlying5, underlying26, underlying0, be4, bn4, bv0, bv1, bv2, bv3, ze23, sz23, sz3, underlying27, underlying29, underlying51, underlying56, co11]
    refine works04_spec ?_
    simp -implicitDefEqProofs only [↓Zd, (Zp), if_true, if_false, ne_eq, implies_true, forall_const, Nat.reduceEqDiff, reduceIte, reduceCtorEq, Int.reduceEq, Int.reduceNeg, Int.reduceLE, Int.reduceLT, Nat.reduceAdd, Nat.reduceLeDiff, Int.reduceToNat, Nat.reduceMul, Nat.reduceBEq, okPart, Value.cells, cut, okCell, cld2, underlying3, underlying4, underlying9, underlying23, vA, is23, ag23, ce23, fa23x0, fa23x1, fa23x2, ag3, ce3, ag9, ce9, underlying3, underlying4, underlying9, underlying5, underlying26, underlying0, be4, bn4, bv0, bv1, bv2, bv3, ze23, sz23, sz3, underlying27, underlying29, underlying51, underlying56]
    exact h _
  rw [hr]
  simp -implicitDefEqProofs only [↓Zd, (Zp), if_true, if_false, ne_eq, implies_true, forall_const, Nat.reduceEqDiff, reduceIte, reduceCtorEq, Int.reduceEq, Int.reduceNeg, Int.reduceLE, Int.reduceLT, Nat.reduceAdd, Nat.reduceLeDiff, Int.reduceToNat, Nat.reduceMul, Nat.reduceBEq, okPart, Value.cells, cut, okCell, cld2, underlying3, underlying4, underlying9, underlying23, vA, is23, ag23, ce23, fa23x0, fa23x1, fa23x2, ag3, ce3, ag9, ce9, underlying3, underlying4, underlying9, underlying5, underlying26, underlying0, be4, bn4, bv0, bv1, bv2, bv3, ze23, sz23, sz3, underlying27, underlying29, underlying51, underlying56, d0, hs1.2 s.next (by first | omega | (simp only [St.next_new, St.next_put, St.next_kill]; omega)), hs1.2 (s.next + 1) (by first | omega | (simp only [St.next_new, St.next_put, St.next_kill]; omega)), co14]
  refine rright_le hn' fun s2 hs2 => ?_
  have n2 : s1.next ≤ s2.next := by have := hs2.1; (try simp only [St.next_new, St.next_put] at this); omega
  by_cases hr' : rightV k' n' x' = true
  case neg =>
    have : rightV k' n' x' = false := by simpa using hr'
    rw [this]
    simp -implicitDefEqProofs only [↓Zd, (Zp), if_true, if_false, ne_eq, implies_true, forall_const, Nat.reduceEqDiff, reduceIte, reduceCtorEq, Int.reduceEq, Int.reduceNeg, Int.reduceLE, Int.reduceLT, Nat.reduceAdd, Nat.reduceLeDiff, Int.reduceToNat, Nat.reduceMul, Nat.reduceBEq, okPart, Value.cells, cut, okCell, cld2, underlying3, underlying4, underlying9, underlying23, vA, is23, ag23, ce23, fa23x0, fa23x1, fa23x2, ag3, ce3, ag9, ce9, underlying3, underlying4, underlying9, underlying5, underlying26, underlying0, be4, bn4, bv0, bv1, bv2, bv3, ze23, sz23, sz3, underlying27, underlying29, underlying51, underlying56, co11]
    refine works04_spec ?_
    simp -implicitDefEqProofs only [↓Zd, (Zp), if_true, if_false, ne_eq, implies_true, forall_const, Nat.reduceEqDiff, reduceIte, reduceCtorEq, Int.reduceEq, Int.reduceNeg, Int.reduceLE, Int.reduceLT, Nat.reduceAdd, Nat.reduceLeDiff, Int.reduceToNat, Nat.reduceMul, Nat.reduceBEq, okPart, Value.cells, cut, okCell, cld2, underlying3, underlying4, underlying9, underlying23, vA, is23, ag23, ce23, fa23x0, fa23x1, fa23x2, ag3, ce3, ag9, ce9, underlying3, underlying4, underlying9, underlying5, underlying26, underlying0, be4, bn4, bv0, bv1, bv2, bv3, ze23, sz23, sz3, underlying27, underlying29, underlying51, underlying56]
    exact h _
  rw [hr']
  have hx := right_size hr
  have hx' := right_size hr'
  simp -implicitDefEqProofs only [↓Zd, (Zp), if_true, if_false, ne_eq, implies_true, forall_const, Nat.reduceEqDiff, reduceIte, reduceCtorEq, Int.reduceEq, Int.reduceNeg, Int.reduceLE, Int.reduceLT, Nat.reduceAdd, Nat.reduceLeDiff, Int.reduceToNat, Nat.reduceMul, Nat.reduceBEq, okPart, Value.cells, cut, okCell, cld2, underlying3, underlying4, underlying9, underlying23, vA, is23, ag23, ce23, fa23x0, fa23x1, fa23x2, ag3, ce3, ag9, ce9, underlying3, underlying4, underlying9, underlying5, underlying26, underlying0, be4, bn4, bv0, bv1, bv2, bv3, ze23, sz23, sz3, underlying27, underlying29, underlying51, underlying56, d0, hs2.2 s.next (by first | omega | (simp only [St.next_new, St.next_put, St.next_kill]; omega)), hs2.2 (s.next + 1) (by first | omega | (simp only [St.next_new, St.next_put, St.next_kill]; omega)), hs1.2 s.next (by first | omega | (simp only [St.next_new, St.next_put, St.next_kill]; omega)), hs1.2 (s.next + 1) (by first | omega | (simp only [St.next_new, St.next_put, St.next_kill]; omega)), co12]
  refine bin_spec hn (by omega) (by omega) (by omega) fun s3 hs3 => ?_
  have n3 : s2.next ≤ s3.next := by have := hs3.1; (try simp only [St.next_new, St.next_put] at this); omega
  have d1 : ¬ s.next = s3.next := by omega
  have d2 : ¬ s.next + 1 = s3.next := by omega
  obtain ⟨a, b, y, e, t, ra, he⟩ := bin_right (op := op) hr hr'
  rw [t]
  unfold vA
  simp -implicitDefEqProofs only [↓Zd, (Zp), if_true, if_false, ne_eq, implies_true, forall_const, Nat.reduceEqDiff, reduceIte, reduceCtorEq, Int.reduceEq, Int.reduceNeg, Int.reduceLE, Int.reduceLT, Nat.reduceAdd, Nat.reduceLeDiff, Int.reduceToNat, Nat.reduceMul, Nat.reduceBEq, okPart, Value.cells, cut, okCell, cld2, underlying3, underlying4, underlying9, underlying23, vA, is23, ag23, ce23, fa23x0, fa23x1, fa23x2, ag3, ce3, ag9, ce9, underlying3, underlying4, underlying9, underlying5, underlying26, underlying0, be4, bn4, bv0, bv1, bv2, bv3, ze23, sz23, sz3, underlying27, underlying29, underlying51, underlying56, d0, d1, d2, hs3.2 s.next (by first | omega | (simp only [St.next_new, St.next_put, St.next_kill]; omega)), hs3.2 (s.next + 1) (by first | omega | (simp only [St.next_new, St.next_put, St.next_kill]; omega)), hs2.2 s.next (by first | omega | (simp only [St.next_new, St.next_put, St.next_kill]; omega)), hs2.2 (s.next + 1) (by first | omega | (simp only [St.next_new, St.next_put, St.next_kill]; omega)), hs1.2 s.next (by first | omega | (simp only [St.next_new, St.next_put, St.next_kill]; omega)), hs1.2 (s.next + 1) (by first | omega | (simp only [St.next_new, St.next_put, St.next_kill]; omega)), co26]
  refine un_spec fun s4 hs4 => ?_
  have n4 : s3.next < s4.next := by have := hs4.1; (try simp only [St.next_new, St.next_put] at this); omega
  have d3 : ¬ s.next = s4.next := by omega
  have d4 : ¬ s.next + 1 = s4.next := by omega
  have d5 : ¬ s3.next = s4.next := by omega
  obtain ⟨a', b', y', e', t', ra', he'⟩ := un_right (op := op) (k := k) (n := n) (x := x)
  rw [t']
  unfold vA
  simp -implicitDefEqProofs only [↓Zd, (Zp), if_true, if_false, ne_eq, implies_true, forall_const, Nat.reduceEqDiff, reduceIte, reduceCtorEq, Int.reduceEq, Int.reduceNeg, Int.reduceLE, Int.reduceLT, Nat.reduceAdd, Nat.reduceLeDiff, Int.reduceToNat, Nat.reduceMul, Nat.reduceBEq, okPart, Value.cells, cut, okCell, cld2, underlying3, underlying4, underlying9, underlying23, vA, is23, ag23, ce23, fa23x0, fa23x1, fa23x2, ag3, ce3, ag9, ce9, underlying3, underlying4, underlying9, underlying5, underlying26, underlying0, be4, bn4, bv0, bv1, bv2, bv3, ze23, sz23, sz3, underlying27, underlying29, underlying51, underlying56, d0, d1, d2, d3, d4, d5, hs4.2 s.next (by first | omega | (simp only [St.next_new, St.next_put, St.next_kill]; omega)), hs4.2 (s.next + 1) (by first | omega | (simp only [St.next_new, St.next_put, St.next_kill]; omega)), hs4.2 s3.next (by first | omega | (simp only [St.next_new, St.next_put, St.next_kill]; omega)), hs3.2 s.next (by first | omega | (simp only [St.next_new, St.next_put, St.next_kill]; omega)), hs3.2 (s.next + 1) (by first | omega | (simp only [St.next_new, St.next_put, St.next_kill]; omega)), hs2.2 s.next (by first | omega | (simp only [St.next_new, St.next_put, St.next_kill]; omega)), hs2.2 (s.next + 1) (by first | omega | (simp only [St.next_new, St.next_put, St.next_kill]; omega)), hs1.2 s.next (by first | omega | (simp only [St.next_new, St.next_put, St.next_kill]; omega)), hs1.2 (s.next + 1) (by first | omega | (simp only [St.next_new, St.next_put, St.next_kill]; omega)), co28]
  refine text_spec hn fun s5 hs5 => ?_
  have n5 : s4.next < s5.next := by have := hs5.1; (try simp only [St.next_new, St.next_put] at this); omega
  have d6 : ¬ s3.next = s5.next := by omega
  have d7 : ¬ s4.next = s5.next := by omega
  obtain ⟨tt, rt⟩ := text_right hn hr
  rw [tt]
  unfold vA
  simp -implicitDefEqProofs only [↓Zd, (Zp), if_true, if_false, ne_eq, implies_true, forall_const, Nat.reduceEqDiff, reduceIte, reduceCtorEq, Int.reduceEq, Int.reduceNeg, Int.reduceLE, Int.reduceLT, Nat.reduceAdd, Nat.reduceLeDiff, Int.reduceToNat, Nat.reduceMul, Nat.reduceBEq, okPart, Value.cells, cut, okCell, cld2, underlying3, underlying4, underlying9, underlying23, vA, is23, ag23, ce23, fa23x0, fa23x1, fa23x2, ag3, ce3, ag9, ce9, underlying3, underlying4, underlying9, underlying5, underlying26, underlying0, be4, bn4, bv0, bv1, bv2, bv3, ze23, sz23, sz3, underlying27, underlying29, underlying51, underlying56, d5, d6, d7, hs5.2 s3.next (by first | omega | (simp only [St.next_new, St.next_put, St.next_kill]; omega)), hs5.2 s4.next (by first | omega | (simp only [St.next_new, St.next_put, St.next_kill]; omega)), hs4.2 s3.next (by first | omega | (simp only [St.next_new, St.next_put, St.next_kill]; omega)), ord9, co20]
  refine right_le fun s6 hs6 => ?_
  have n6 : s5.next < s6.next := by have := hs6.1; (try simp only [St.next_new, St.next_put] at this); omega
  rw [ra]
  simp -implicitDefEqProofs only [↓Zd, (Zp), if_true, if_false, ne_eq, implies_true, forall_const, Nat.reduceEqDiff, reduceIte, reduceCtorEq, Int.reduceEq, Int.reduceNeg, Int.reduceLE, Int.reduceLT, Nat.reduceAdd, Nat.reduceLeDiff, Int.reduceToNat, Nat.reduceMul, Nat.reduceBEq, okPart, Value.cells, cut, okCell, cld2, underlying3, underlying4, underlying9, underlying23, vA, is23, ag23, ce23, fa23x0, fa23x1, fa23x2, ag3, ce3, ag9, ce9, underlying3, underlying4, underlying9, underlying5, underlying26, underlying0, be4, bn4, bv0, bv1, bv2, bv3, ze23, sz23, sz3, underlying27, underlying29, underlying51, underlying56, d5, d6, d7, hs6.2 s3.next (by first | omega | (simp only [St.next_new, St.next_put, St.next_kill]; omega)), hs6.2 s4.next (by first | omega | (simp only [St.next_new, St.next_put, St.next_kill]; omega)), hs6.2 s5.next (by first | omega | (simp only [St.next_new, St.next_put, St.next_kill]; omega)), hs5.2 s3.next (by first | omega | (simp only [St.next_new, St.next_put, St.next_kill]; omega)), hs5.2 s4.next (by first | omega | (simp only [St.next_new, St.next_put, St.next_kill]; omega)), hs4.2 s3.next (by first | omega | (simp only [St.next_new, St.next_put, St.next_kill]; omega)), co20]
  refine right_le fun s7 hs7 => ?_
  have n7 : s6.next ≤ s7.next := by have := hs7.1; (try simp only [St.next_new, St.next_put] at this); omega
  rw [ra']
  simp -implicitDefEqProofs only [↓Zd, (Zp), if_true, if_false, ne_eq, implies_true, forall_const, Nat.reduceEqDiff, reduceIte, reduceCtorEq, Int.reduceEq, Int.reduceNeg, Int.reduceLE, Int.reduceLT, Nat.reduceAdd, Nat.reduceLeDiff, Int.reduceToNat, Nat.reduceMul, Nat.reduceBEq, okPart, Value.cells, cut, okCell, cld2, underlying3, underlying4, underlying9, underlying23, vA, is23, ag23, ce23, fa23x0, fa23x1, fa23x2, ag3, ce3, ag9, ce9, underlying3, underlying4, underlying9, underlying5, underlying26, underlying0, be4, bn4, bv0, bv1, bv2, bv3, ze23, sz23, sz3, underlying27, underlying29, underlying51, underlying56, d5, d6, d7, hs7.2 s3.next (by first | omega | (simp only [St.next_new, St.next_put, St.next_kill]; omega)), hs7.2 s4.next (by first | omega | (simp only [St.next_new, St.next_put, St.next_kill]; omega)), hs7.2 s5.next (by first | omega | (simp only [St.next_new, St.next_put, St.next_kill]; omega)), hs6.2 s3.next (by first | omega | (simp only [St.next_new, St.next_put, St.next_kill]; omega)), hs6.2 s4.next (by first | omega | (simp only [St.next_new, St.next_put, St.next_kill]; omega)), hs6.2 s5.next (by first | omega | (simp only [St.next_new, St.next_put, St.next_kill]; omega)), hs5.2 s3.next (by first | omega | (simp only [St.next_new, St.next_put, St.next_kill]; omega)), hs5.2 s4.next (by first | omega | (simp only [St.next_new, St.next_put, St.next_kill]; omega)), hs4.2 s3.next (by first | omega | (simp only [St.next_new, St.next_put, St.next_kill]; omega)), co20]
  refine right_le fun s8 hs8 => ?_
  have n8 : s7.next ≤ s8.next := by have := hs8.1; (try simp only [St.next_new, St.next_put] at this); omega
  rw [rt]
  by_cases e0 : e = 0
  · subst e0
    by_cases e0' : e' = 0
    · subst e0'
      simp -implicitDefEqProofs only [↓Zd, (Zp), if_true, if_false, ne_eq, implies_true, forall_const, Nat.reduceEqDiff, reduceIte, reduceCtorEq, Int.reduceEq, Int.reduceNeg, Int.reduceLE, Int.reduceLT, Nat.reduceAdd, Nat.reduceLeDiff, Int.reduceToNat, Nat.reduceMul, Nat.reduceBEq, okPart, Value.cells, cut, okCell, cld2, underlying3, underlying4, underlying9, underlying23, vA, is23, ag23, ce23, fa23x0, fa23x1, fa23x2, ag3, ce3, ag9, ce9, underlying3, underlying4, underlying9, underlying5, underlying26, underlying0, be4, bn4, bv0, bv1, bv2, bv3, ze23, sz23, sz3, underlying27, underlying29, underlying51, underlying56, co11]
      refine works04_spec ?_
      simp -implicitDefEqProofs only [↓Zd, (Zp), if_true, if_false, ne_eq, implies_true, forall_const, Nat.reduceEqDiff, reduceIte, reduceCtorEq, Int.reduceEq, Int.reduceNeg, Int.reduceLE, Int.reduceLT, Nat.reduceAdd, Nat.reduceLeDiff, Int.reduceToNat, Nat.reduceMul, Nat.reduceBEq, okPart, Value.cells, cut, okCell, cld2, underlying3, underlying4, underlying9, underlying23, vA, is23, ag23, ce23, fa23x0, fa23x1, fa23x2, ag3, ce3, ag9, ce9, underlying3, underlying4, underlying9, underlying5, underlying26, underlying0, be4, bn4, bv0, bv1, bv2, bv3, ze23, sz23, sz3, underlying27, underlying29, underlying51, underlying56]
      exact h _
    · obtain ⟨rfl, rfl, rfl⟩ := he'.resolve_left e0'
      simp -implicitDefEqProofs only [↓Zd, (Zp), if_true, if_false, ne_eq, implies_true, forall_const, Nat.reduceEqDiff, reduceIte, reduceCtorEq, Int.reduceEq, Int.reduceNeg, Int.reduceLE, Int.reduceLT, Nat.reduceAdd, Nat.reduceLeDiff, Int.reduceToNat, Nat.reduceMul, Nat.reduceBEq, okPart, Value.cells, cut, okCell, cld2, underlying3, underlying4, underlying9, underlying23, vA, is23, ag23, ce23, fa23x0, fa23x1, fa23x2, ag3, ce3, ag9, ce9, underlying3, underlying4, underlying9, underlying5, underlying26, underlying0, be4, bn4, bv0, bv1, bv2, bv3, ze23, sz23, sz3, underlying27, underlying29, underlying51, underlying56, d5, d6, d7, e0', bv0, vA, eqSelf, hs8.2 s3.next (by first | omega | (simp only [St.next_new, St.next_put, St.next_kill]; omega)), hs8.2 s4.next (by first | omega | (simp only [St.next_new, St.next_put, St.next_kill]; omega)), hs7.2 s3.next (by first | omega | (simp only [St.next_new, St.next_put, St.next_kill]; omega)), hs7.2 s4.next (by first | omega | (simp only [St.next_new, St.next_put, St.next_kill]; omega)), hs6.2 s3.next (by first | omega | (simp only [St.next_new, St.next_put, St.next_kill]; omega)), hs6.2 s4.next (by first | omega | (simp only [St.next_new, St.next_put, St.next_kill]; omega)), hs5.2 s3.next (by first | omega | (simp only [St.next_new, St.next_put, St.next_kill]; omega)), hs5.2 s4.next (by first | omega | (simp only [St.next_new, St.next_put, St.next_kill]; omega)), hs4.2 s3.next (by first | omega | (simp only [St.next_new, St.next_put, St.next_kill]; omega)), co11]
      refine works04_spec ?_
      simp -implicitDefEqProofs only [↓Zd, (Zp), if_true, if_false, ne_eq, implies_true, forall_const, Nat.reduceEqDiff, reduceIte, reduceCtorEq, Int.reduceEq, Int.reduceNeg, Int.reduceLE, Int.reduceLT, Nat.reduceAdd, Nat.reduceLeDiff, Int.reduceToNat, Nat.reduceMul, Nat.reduceBEq, okPart, Value.cells, cut, okCell, cld2, underlying3, underlying4, underlying9, underlying23, vA, is23, ag23, ce23, fa23x0, fa23x1, fa23x2, ag3, ce3, ag9, ce9, underlying3, underlying4, underlying9, underlying5, underlying26, underlying0, be4, bn4, bv0, bv1, bv2, bv3, ze23, sz23, sz3, underlying27, underlying29, underlying51, underlying56]
      exact h _
  · obtain ⟨rfl, rfl, rfl⟩ := he.resolve_left e0
    by_cases e0' : e' = 0
    · subst e0'
      simp -implicitDefEqProofs only [↓Zd, (Zp), if_true, if_false, ne_eq, implies_true, forall_const, Nat.reduceEqDiff, reduceIte, reduceCtorEq, Int.reduceEq, Int.reduceNeg, Int.reduceLE, Int.reduceLT, Nat.reduceAdd, Nat.reduceLeDiff, Int.reduceToNat, Nat.reduceMul, Nat.reduceBEq, okPart, Value.cells, cut, okCell, cld2, underlying3, underlying4, underlying9, underlying23, vA, is23, ag23, ce23, fa23x0, fa23x1, fa23x2, ag3, ce3, ag9, ce9, underlying3, underlying4, underlying9, underlying5, underlying26, underlying0, be4, bn4, bv0, bv1, bv2, bv3, ze23, sz23, sz3, underlying27, underlying29, underlying51, underlying56, d5, d6, d7, e0, bv0, vA, eqSelf, hs8.2 s3.next (by first | omega | (simp only [St.next_new, St.next_put, St.next_kill]; omega)), hs8.2 s4.next (by first | omega | (simp only [St.next_new, St.next_put, St.next_kill]; omega)), hs7.2 s3.next (by first | omega | (simp only [St.next_new, St.next_put, St.next_kill]; omega)), hs7.2 s4.next (by first | omega | (simp only [St.next_new, St.next_put, St.next_kill]; omega)), hs6.2 s3.next (by first | omega | (simp only [St.next_new, St.next_put, St.next_kill]; omega)), hs6.2 s4.next (by first | omega | (simp only [St.next_new, St.next_put, St.next_kill]; omega)), hs5.2 s3.next (by first | omega | (simp only [St.next_new, St.next_put, St.next_kill]; omega)), hs5.2 s4.next (by first | omega | (simp only [St.next_new, St.next_put, St.next_kill]; omega)), hs4.2 s3.next (by first | omega | (simp only [St.next_new, St.next_put, St.next_kill]; omega)), co11]
      refine works04_spec ?_
      simp -implicitDefEqProofs only [↓Zd, (Zp), if_true, if_false, ne_eq, implies_true, forall_const, Nat.reduceEqDiff, reduceIte, reduceCtorEq, Int.reduceEq, Int.reduceNeg, Int.reduceLE, Int.reduceLT, Nat.reduceAdd, Nat.reduceLeDiff, Int.reduceToNat, Nat.reduceMul, Nat.reduceBEq, okPart, Value.cells, cut, okCell, cld2, underlying3, underlying4, underlying9, underlying23, vA, is23, ag23, ce23, fa23x0, fa23x1, fa23x2, ag3, ce3, ag9, ce9, underlying3, underlying4, underlying9, underlying5, underlying26, underlying0, be4, bn4, bv0, bv1, bv2, bv3, ze23, sz23, sz3, underlying27, underlying29, underlying51, underlying56]
      exact h _
    · obtain ⟨rfl, rfl, rfl⟩ := he'.resolve_left e0'
      simp -implicitDefEqProofs only [↓Zd, (Zp), if_true, if_false, ne_eq, implies_true, forall_const, Nat.reduceEqDiff, reduceIte, reduceCtorEq, Int.reduceEq, Int.reduceNeg, Int.reduceLE, Int.reduceLT, Nat.reduceAdd, Nat.reduceLeDiff, Int.reduceToNat, Nat.reduceMul, Nat.reduceBEq, okPart, Value.cells, cut, okCell, cld2, underlying3, underlying4, underlying9, underlying23, vA, is23, ag23, ce23, fa23x0, fa23x1, fa23x2, ag3, ce3, ag9, ce9, underlying3, underlying4, underlying9, underlying5, underlying26, underlying0, be4, bn4, bv0, bv1, bv2, bv3, ze23, sz23, sz3, underlying27, underlying29, underlying51, underlying56, d5, d6, d7, e0, e0', bv0, vA, eqSelf, hs8.2 s3.next (by first | omega | (simp only [St.next_new, St.next_put, St.next_kill]; omega)), hs8.2 s4.next (by first | omega | (simp only [St.next_new, St.next_put, St.next_kill]; omega)), hs7.2 s3.next (by first | omega | (simp only [St.next_new, St.next_put, St.next_kill]; omega)), hs7.2 s4.next (by first | omega | (simp only [St.next_new, St.next_put, St.next_kill]; omega)), hs6.2 s3.next (by first | omega | (simp only [St.next_new, St.next_put, St.next_kill]; omega)), hs6.2 s4.next (by first | omega | (simp only [St.next_new, St.next_put, St.next_kill]; omega)), hs5.2 s3.next (by first | omega | (simp only [St.next_new, St.next_put, St.next_kill]; omega)), hs5.2 s4.next (by first | omega | (simp only [St.next_new, St.next_put, St.next_kill]; omega)), hs4.2 s3.next (by first | omega | (simp only [St.next_new, St.next_put, St.next_kill]; omega)), co11]
      refine works04_spec ?_
      simp -implicitDefEqProofs only [↓Zd, (Zp), if_true, if_false, ne_eq, implies_true, forall_const, Nat.reduceEqDiff, reduceIte, reduceCtorEq, Int.reduceEq, Int.reduceNeg, Int.reduceLE, Int.reduceLT, Nat.reduceAdd, Nat.reduceLeDiff, Int.reduceToNat, Nat.reduceMul, Nat.reduceBEq, okPart, Value.cells, cut, okCell, cld2, underlying3, underlying4, underlying9, underlying23, vA, is23, ag23, ce23, fa23x0, fa23x1, fa23x2, ag3, ce3, ag9, ce9, underlying3, underlying4, underlying9, underlying5, underlying26, underlying0, be4, bn4, bv0, bv1, bv2, bv3, ze23, sz23, sz3, underlying27, underlying29, underlying51, underlying56]
      exact h _
end

theorem opsRight_walk {op : Int} (_ : -9223372036854775808 ≤ op ∧ op ≤ 9223372036854775807) {k n : Int} {x : ByteArray} (_ : (Lit.int .i64 k).wf = true) (hn : (Lit.int .i64 n).wf = true) (_ : x.size ≤ maxLen) {k' n' : Int} {x' : ByteArray} (_ : (Lit.int .i64 k').wf = true) (hn' : (Lit.int .i64 n').wf = true) (_ : x'.size ≤ maxLen) (w : World) : Calls Try.prog 9 #[.int .i64 op, vA k n x, vA k' n' x'] w fun e w' => e = .returned (.bool true) ∧ Below w.heap.size w w' :=
  calls_plain (by kernel_rfl) (opsRight_spec (fits_i64 hn) (fits_i64 hn') fun _ => rfl)
end Go.Proofs.Try
