/- The walk of the law that texts have numbers of their own. A lemma file: no statement of its own. -/
import Derived.Test.YtiachndgldjbfaaFwF
import Derived.Test.YtiachndgldjbfaaNamesC
set_option linter.unusedSimpArgs false
set_option linter.unusedVariables false
set_option linter.unusedSectionVars false
namespace Go.Proofs.Try
open Go.Cs
open Go.RowKit (Below)
set_option maxRecDepth 100000
attribute [local irreducible] CCalls WLoop WScope

/-- The texts of a table after more were asked for. -/
def ofAll (T l : List ByteArray) : List ByteArray := l.foldl ofT T
theorem ofT_len (T : List ByteArray) (x : ByteArray) : (ofT T x).length ≤ T.length + 1 := by
  unfold ofT; split <;> simp
theorem ofAll_take {T l : List ByteArray} {i : Nat} (hi : i < l.length) : ofAll T (l.take (i + 1)) = ofT (ofAll T (l.take i)) l[i] := by
  unfold ofAll
  rw [List.take_add_one, List.getElem?_eq_getElem hi, List.foldl_append]
  rfl
theorem ofAll_len (T l : List ByteArray) : (ofAll T l).length ≤ T.length + l.length := by
  induction l generalizing T with
  | nil => simp [ofAll]
  | cons x l ih =>
    have h1 := ih (ofT T x)
    have h2 := ofT_len T x
    simp only [ofAll, List.foldl_cons, List.length_cons] at *
    omega
theorem idx_app {T S : List ByteArray} {x : ByteArray} {j : Nat} (h : idxOf T x = some j) : idxOf (T ++ S) x = some j := by
  induction T generalizing j with
  | nil => cases h
  | cons y T ih =>
    simp only [List.cons_append, idxOf] at h ⊢
    split at h
    · rw [if_pos ‹_›]; exact h
    · rw [if_neg ‹_›]
      obtain ⟨i, hi, rfl⟩ := Option.map_eq_some_iff.1 h
      rw [ih hi]; rfl
theorem idx_new {T : List ByteArray} {x : ByteArray} (h : idxOf T x = none) : idxOf (T ++ [x]) x = some T.length := by
  induction T with
  | nil => simp [idxOf]
  | cons y T ih =>
    simp only [List.cons_append, idxOf] at h ⊢
    split at h
    · cases h
    · rw [if_neg ‹_›, ih (by simpa using h)]; rfl
theorem ofT_keep {T : List ByteArray} {x y : ByteArray} {j : Nat} (h : idxOf T x = some j) : idxOf (ofT T y) x = some j := by
  unfold ofT; split
  · exact h
  · exact idx_app h
theorem ofT_idx (T : List ByteArray) (x : ByteArray) : ∃ j, idxOf (ofT T x) x = some j ∧ ofN T x = ((j + 1 : Nat) : Int) := by
  unfold ofT ofN
  cases h : idxOf T x with
  | some j => exact ⟨j, h, rfl⟩
  | none => exact ⟨T.length, idx_new h, rfl⟩
theorem ofN_of {T : List ByteArray} {x : ByteArray} {j : Nat} (h : idxOf T x = some j) : ofN T x = ((j + 1 : Nat) : Int) := by
  unfold ofN; rw [h]
theorem ofT_of {T : List ByteArray} {x : ByteArray} {j : Nat} (h : idxOf T x = some j) : ofT T x = T := by
  unfold ofT; rw [h]
theorem txt_of {T : List ByteArray} {x : ByteArray} {j : Nat} (h : idxOf T x = some j) : txtV T ((j + 1 : Nat) : Int) = .tuple #[.string x, .bool true] := by
  obtain ⟨h1, h2⟩ := idx_lt h
  unfold txtV
  rw [if_pos (by omega), show (((j + 1 : Nat) : Int)).toNat - 1 = j by omega, List.getD_eq_getElem?_getD, h2]; rfl
theorem idx_apart {T : List ByteArray} {x y : ByteArray} {j : Nat} (h : idxOf T x = some j) (h' : idxOf T y = some j) : x = y := by
  have := (idx_lt h).2.symm.trans (idx_lt h').2
  simpa using this

section
variable {M : Type} [Mem M] {w0 : World} {s : St M} {R : Value → St M → Prop}

set_option maxHeartbeats 8000000 in
theorem namesApart_spec {ao : Option Addr} {l : List ByteArray} {c : Nat} {a b : ByteArray} (hl : RowV s ao l) (h : ∀ s', R (.bool true) s') : CCalls Try.prog w0 4 #[.slice ao l.length c, .string a, .string b] s R := by
  refine wfun2 hmix ok4 (l := [.slice ao l.length c, .string a, .string b]) func4 rfl ntmps4 results4 (by simp) ?_
  simp -implicitDefEqProofs only [↓Zd, (Zp), if_true, if_false, ne_eq, implies_true, forall_const, Nat.reduceEqDiff, reduceIte, reduceCtorEq, Int.reduceEq, Int.reduceNeg, Int.reduceLE, Int.reduceLT, Nat.reduceAdd, Nat.reduceLeDiff, Int.reduceToNat, Nat.reduceMul, Nat.reduceBEq, okPart, Value.cells, cut, okCell, cld2, underlying3, underlying4, underlying9, underlying5, underlying44, underlying0, be4, bn4, ord4, co15]
  refine long_spec hl ?_ fun hlen => ?_
  · simp -implicitDefEqProofs only [↓Zd, (Zp), if_true, if_false, ne_eq, implies_true, forall_const, Nat.reduceEqDiff, reduceIte, reduceCtorEq, Int.reduceEq, Int.reduceNeg, Int.reduceLE, Int.reduceLT, Nat.reduceAdd, Nat.reduceLeDiff, Int.reduceToNat, Nat.reduceMul, Nat.reduceBEq, okPart, Value.cells, cut, okCell, cld2, underlying3, underlying4, underlying9, underlying5, underlying44, underlying0, be4, bn4, co16]
    refine works10_spec ?_
    simp -implicitDefEqProofs only [↓Zd, (Zp), if_true, if_false, ne_eq, implies_true, forall_const, Nat.reduceEqDiff, reduceIte, reduceCtorEq, Int.reduceEq, Int.reduceNeg, Int.reduceLE, Int.reduceLT, Nat.reduceAdd, Nat.reduceLeDiff, Int.reduceToNat, Nat.reduceMul, Nat.reduceBEq, okPart, Value.cells, cut, okCell, cld2, underlying3, underlying4, underlying9, underlying5, underlying44, underlying0, be4, bn4]
    exact h _
  by_cases ha : (300 : Int) < (a.size : Int)
  · simp -implicitDefEqProofs only [↓Zd, (Zp), if_true, if_false, ne_eq, implies_true, forall_const, Nat.reduceEqDiff, reduceIte, reduceCtorEq, Int.reduceEq, Int.reduceNeg, Int.reduceLE, Int.reduceLT, Nat.reduceAdd, Nat.reduceLeDiff, Int.reduceToNat, Nat.reduceMul, Nat.reduceBEq, okPart, Value.cells, cut, okCell, cld2, underlying3, underlying4, underlying9, underlying5, underlying44, underlying0, be4, bn4, ha, co16]
    refine works10_spec ?_
    simp -implicitDefEqProofs only [↓Zd, (Zp), if_true, if_false, ne_eq, implies_true, forall_const, Nat.reduceEqDiff, reduceIte, reduceCtorEq, Int.reduceEq, Int.reduceNeg, Int.reduceLE, Int.reduceLT, Nat.reduceAdd, Nat.reduceLeDiff, Int.reduceToNat, Nat.reduceMul, Nat.reduceBEq, okPart, Value.cells, cut, okCell, cld2, underlying3, underlying4, underlying9, underlying5, underlying44, underlying0, be4, bn4]
    exact h _
  by_cases hb : (300 : Int) < (b.size : Int)
  · simp -implicitDefEqProofs only [↓Zd, (Zp), if_true, if_false, ne_eq, implies_true, forall_const, Nat.reduceEqDiff, reduceIte, reduceCtorEq, Int.reduceEq, Int.reduceNeg, Int.reduceLE, Int.reduceLT, Nat.reduceAdd, Nat.reduceLeDiff, Int.reduceToNat, Nat.reduceMul, Nat.reduceBEq, okPart, Value.cells, cut, okCell, cld2, underlying3, underlying4, underlying9, underlying5, underlying44, underlying0, be4, bn4, ha, hb, co16]
    refine works10_spec ?_
    simp -implicitDefEqProofs only [↓Zd, (Zp), if_true, if_false, ne_eq, implies_true, forall_const, Nat.reduceEqDiff, reduceIte, reduceCtorEq, Int.reduceEq, Int.reduceNeg, Int.reduceLE, Int.reduceLT, Nat.reduceAdd, Nat.reduceLeDiff, Int.reduceToNat, Nat.reduceMul, Nat.reduceBEq, okPart, Value.cells, cut, okCell, cld2, underlying3, underlying4, underlying9, underlying5, underlying44, underlying0, be4, bn4]
    exact h _
  simp -implicitDefEqProofs only [↓Zd, (Zp), if_true, if_false, ne_eq, implies_true, forall_const, Nat.reduceEqDiff, reduceIte, reduceCtorEq, Int.reduceEq, Int.reduceNeg, Int.reduceLE, Int.reduceLT, Nat.reduceAdd, Nat.reduceLeDiff, Int.reduceToNat, Nat.reduceMul, Nat.reduceBEq, okPart, Value.cells, cut, okCell, cld2, underlying3, underlying4, underlying9, underlying5, underlying44, underlying0, be4, bn4, ha, hb, co17]
  refine new_spec (lo := s.next) (Nat.le_refl _) fun s1 p O hT hs1 hO => ?_
  simp -implicitDefEqProofs only [↓Zd, (Zp), if_true, if_false, ne_eq, implies_true, forall_const, Nat.reduceEqDiff, reduceIte, reduceCtorEq, Int.reduceEq, Int.reduceNeg, Int.reduceLE, Int.reduceLT, Nat.reduceAdd, Nat.reduceLeDiff, Int.reduceToNat, Nat.reduceMul, Nat.reduceBEq, okPart, Value.cells, cut, okCell, cld2, underlying3, underlying4, underlying9, underlying5, underlying44, underlying0, be4, bn4]
  refine wloop_fix hmix [29, 30, 31, 32, 35, 36, 37, 38, 39, 40, 33, 34, 8] (fun k env s' => ∃ i : Nat, k = 101 - i ∧ i ≤ l.length ∧ env 8 = .int .i64 i ∧ s.le s' ∧ ∃ O, TabAt s.next s' p (ofAll [] (l.take i)) O) 101 ?_ ?_
  · exact ⟨0, rfl, by omega, rfl, hs1, O, hT⟩
  · rintro k env s2 hF ⟨i, rfl, hi, e8, hs2, O2, hT2⟩
    have e0 : env 0 = .slice ao l.length c := by rw [hF 0 rfl]; rfl
    have e1 : env 1 = .string a := by rw [hF 1 rfl]; rfl
    have e2 : env 2 = .string b := by rw [hF 2 rfl]; rfl
    have e7 : env 7 = .pointer (some ⟨p, 0, none⟩) := by rw [hF 7 rfl]; rfl
    have hlT : (ofAll [] (l.take i)).length ≤ i := by have := ofAll_len [] (l.take i); simp at this; omega
    by_cases hlt : i < l.length
    · have hlt' : (i : Int) < (l.length : Int) := by omega
      have h0 : (0 : Int) ≤ (i : Int) := by omega
      have w7 : IntKind.i64.wrap ((i : Int) + 1) = ((i + 1 : Nat) : Int) := by rw [wrap_i64 (by omega)]; omega
      obtain ⟨j, ss, rfl, h9, hx⟩ := (hl.le hs2).get hlt
      simp -implicitDefEqProofs only [↓Zd, (Zp), if_true, if_false, ne_eq, implies_true, forall_const, Nat.reduceEqDiff, reduceIte, reduceCtorEq, Int.reduceEq, Int.reduceNeg, Int.reduceLE, Int.reduceLT, Nat.reduceAdd, Nat.reduceLeDiff, Int.reduceToNat, Nat.reduceMul, Nat.reduceBEq, okPart, Value.cells, cut, okCell, cld2, underlying3, underlying4, underlying9, underlying5, underlying44, underlying0, be4, bn4, underlying22, e0, e7, e8, hlt', h9, ag22, ag9, sz9, h0, hx, Nat.mul_one, Nat.zero_add, co18]
      refine of_spec hT2 hs2.1 (by omega) fun s3 O3 hT3 hn3 hk3 hO3 => ?_
      simp -implicitDefEqProofs only [↓Zd, (Zp), if_true, if_false, ne_eq, implies_true, forall_const, Nat.reduceEqDiff, reduceIte, reduceCtorEq, Int.reduceEq, Int.reduceNeg, Int.reduceLE, Int.reduceLT, Nat.reduceAdd, Nat.reduceLeDiff, Int.reduceToNat, Nat.reduceMul, Nat.reduceBEq, okPart, Value.cells, cut, okCell, cld2, underlying3, underlying4, underlying9, underlying5, underlying44, underlying0, be4, bn4, e8, w7]
      refine ⟨?_, 101 - (i + 1), by omega, i + 1, rfl, by omega, rfl, ?_, O3, ?_⟩
      · repeat (first | exact hF | refine Fix.upd (by decide) ?_)
      · exact ⟨Nat.le_trans hs2.1 hn3, fun b hb => by rw [hk3 b (Nat.lt_of_lt_of_le hb hs2.1) (fun ho => by have := (hT2.own b ho).1; omega), hs2.2 b hb]⟩
      · rw [ofAll_take hlt]; exact hT3
    · have hlt' : ¬ (i : Int) < (l.length : Int) := by omega
      obtain ⟨j, hj, ej⟩ := ofT_idx (ofAll [] (l.take i)) a
      obtain ⟨j', hj', ej'⟩ := ofT_idx (ofT (ofAll [] (l.take i)) a) b
      have l1 := ofT_len (ofAll [] (l.take i)) a
      have l2 := ofT_len (ofT (ofAll [] (l.take i)) a) b
      have hk := ofT_keep (y := b) hj
      have jb := (idx_lt hj).1
      have jb' := (idx_lt hj').1
      have hjj : (((j + 1 : Nat) : Int) = ((j' + 1 : Nat) : Int)) = (a = b) := by
        rw [eq_iff_iff]
        constructor
        · intro e
          have : j = j' := by omega
          subst this
          exact idx_apart hk hj'
        · rintro rfl
          rw [hk] at hj'
          cases hj'; rfl
      simp -implicitDefEqProofs only [↓Zd, (Zp), if_true, if_false, ne_eq, implies_true, forall_const, Nat.reduceEqDiff, reduceIte, reduceCtorEq, Int.reduceEq, Int.reduceNeg, Int.reduceLE, Int.reduceLT, Nat.reduceAdd, Nat.reduceLeDiff, Int.reduceToNat, Nat.reduceMul, Nat.reduceBEq, okPart, Value.cells, cut, okCell, cld2, underlying3, underlying4, underlying9, underlying5, underlying44, underlying0, be4, bn4, underlying22, e0, e7, e8, e1, e2, hlt', ord4, co18]
      refine of_spec hT2 hs2.1 (by omega) fun s3 O3 hT3 hn3 hk3 hO3 => ?_
      rw [ej]
      simp -implicitDefEqProofs only [↓Zd, (Zp), if_true, if_false, ne_eq, implies_true, forall_const, Nat.reduceEqDiff, reduceIte, reduceCtorEq, Int.reduceEq, Int.reduceNeg, Int.reduceLE, Int.reduceLT, Nat.reduceAdd, Nat.reduceLeDiff, Int.reduceToNat, Nat.reduceMul, Nat.reduceBEq, okPart, Value.cells, cut, okCell, cld2, underlying3, underlying4, underlying9, underlying5, underlying44, underlying0, be4, bn4, e7, e1, e2, co18]
      refine of_spec hT3 (by have := hs2.1; omega) (by omega) fun s4 O4 hT4 hn4 hk4 hO4 => ?_
      rw [ej']
      simp -implicitDefEqProofs only [↓Zd, (Zp), if_true, if_false, ne_eq, implies_true, forall_const, Nat.reduceEqDiff, reduceIte, reduceCtorEq, Int.reduceEq, Int.reduceNeg, Int.reduceLE, Int.reduceLT, Nat.reduceAdd, Nat.reduceLeDiff, Int.reduceToNat, Nat.reduceMul, Nat.reduceBEq, okPart, Value.cells, cut, okCell, cld2, underlying3, underlying4, underlying9, underlying5, underlying44, underlying0, be4, bn4, e7, e1, e2, co23]
      refine text_spec (by omega) hT4 ?_
      rw [txt_of hk]
      simp -implicitDefEqProofs only [↓Zd, (Zp), if_true, if_false, ne_eq, implies_true, forall_const, Nat.reduceEqDiff, reduceIte, reduceCtorEq, Int.reduceEq, Int.reduceNeg, Int.reduceLE, Int.reduceLT, Nat.reduceAdd, Nat.reduceLeDiff, Int.reduceToNat, Nat.reduceMul, Nat.reduceBEq, okPart, Value.cells, cut, okCell, cld2, underlying3, underlying4, underlying9, underlying5, underlying44, underlying0, be4, bn4, e7, e1, e2, underlying32, underlying34, co21]
      refine find_spec hT4 ?_
      rw [hk]
      have hgd : (decide (((j + 1 : Nat) : Int) = ((j' + 1 : Nat) : Int)) == decide (a = b)) = true := by rw [beq_iff_eq, decide_eq_decide]; exact iff_of_eq hjj
      simp -implicitDefEqProofs only [↓Zd, (Zp), if_true, if_false, ne_eq, implies_true, forall_const, Nat.reduceEqDiff, reduceIte, reduceCtorEq, Int.reduceEq, Int.reduceNeg, Int.reduceLE, Int.reduceLT, Nat.reduceAdd, Nat.reduceLeDiff, Int.reduceToNat, Nat.reduceMul, Nat.reduceBEq, okPart, Value.cells, cut, okCell, cld2, underlying3, underlying4, underlying9, underlying5, underlying44, underlying0, be4, bn4, e7, e1, e2, hgd, underlying32, underlying34, ord4, co18]
      refine of_spec hT4 (by have := hs2.1; omega) (by omega) fun s5 O5 hT5 hn5 hk5 hO5 => ?_
      rw [ofN_of hk]
      simp -implicitDefEqProofs only [↓Zd, (Zp), if_true, if_false, ne_eq, implies_true, forall_const, Nat.reduceEqDiff, reduceIte, reduceCtorEq, Int.reduceEq, Int.reduceNeg, Int.reduceLE, Int.reduceLT, Nat.reduceAdd, Nat.reduceLeDiff, Int.reduceToNat, Nat.reduceMul, Nat.reduceBEq, okPart, Value.cells, cut, okCell, cld2, underlying3, underlying4, underlying9, underlying5, underlying44, underlying0, be4, bn4, e7, e1, e2, co16]
      refine works10_spec ?_
      simp -implicitDefEqProofs only [↓Zd, (Zp), if_true, if_false, ne_eq, implies_true, forall_const, Nat.reduceEqDiff, reduceIte, reduceCtorEq, Int.reduceEq, Int.reduceNeg, Int.reduceLE, Int.reduceLT, Nat.reduceAdd, Nat.reduceLeDiff, Int.reduceToNat, Nat.reduceMul, Nat.reduceBEq, okPart, Value.cells, cut, okCell, cld2, underlying3, underlying4, underlying9, underlying5, underlying44, underlying0, be4, bn4]
      exact h _
end

theorem namesApart_walk {T ss : List ByteArray} {c : Nat} {oi : Option BI} {a : Nat → Option Addr} {v : Value} {x y : ByteArray} {w : World} (hr : RowIn w oi ss) (hv : ∀ (ρ : Ren) j, ρ j = oi → VRel ρ (.slice (a j) T.length c) v)
    (ht : T = [] ∨ (a = fun j => some ⟨j, 0, none⟩) ∧ ∀ k, k < T.length → ss[k]? = T[k]?) (_ : x.size ≤ maxLen) (_ : y.size ≤ maxLen) : Calls Try.prog 4 #[v, .string x, .string y] w fun e w' => e = .returned (.bool true) ∧ Below w.heap.size w w' := by
  refine calls_rows (L := [ss]) (B := [oi]) (args := #[.slice (a 0) T.length c, .string x, .string y]) rfl ?_ ⟨rfl, ?_⟩ (namesApart_spec ?_ fun _ => rfl)
  · intro j oi' ss' h1 h2
    match j, h1, h2 with
    | 0, h1, h2 => cases h1; cases h2; exact hr
  · intro i hi
    match i, hi with
    | 0, _ => exact hv _ 0 rfl
    | 1, _ => exact .string _
    | 2, _ => exact .string _
  · rcases ht with ht | ⟨rfl, ht⟩
    · exact .inl ht
    · exact .inr ⟨0, ss, rfl, Nat.zero_lt_one, rfl, ht⟩
end Go.Proofs.Try
