/- The document's tables of names: the walks of what asks them. A lemma file: no statement of its own. -/
import Derived.Test.YtiachndgldjbfaaFwF
import Derived.Test.YtiachndgldjbfaaNamesA
set_option linter.unusedSimpArgs false
set_option linter.unusedVariables false
set_option linter.unusedSectionVars false
namespace Go.Proofs.Try
open Go.Cs
open Go.RowKit (Below)
set_option maxRecDepth 100000
attribute [local irreducible] CCalls WLoop WScope

section
variable {M : Type} [Mem M] {w0 : World} {s : St M} {R : Value → St M → Prop}

/-- A table of the document's lies at p. -/
structure RTab (lo : Nat) (s : St M) (p : Nat) (T : List ByteArray) (O : Nat → Prop) : Prop where
  own : ∀ b, O b → lo ≤ b ∧ b < s.next
  pin : O p
  bl : ∃ sl, s.at' p = some (.cells [sl] 29 true) ∧ SlC 9 1 s sl (T.map .string) T.length ∧ (∀ q n c, sl = .slice (some q) n c → O q.block ∧ q.block ≠ p)

theorem RTab.same {lo : Nat} {s s' : St M} {p : Nat} {T : List ByteArray} {O : Nat → Prop} (h : RTab lo s p T O) (hn : s.next ≤ s'.next) (hs : ∀ b, O b → s'.at' b = s.at' b) : RTab lo s' p T O := by
  obtain ⟨h1, h2, sl, h3, h7, h8⟩ := h
  exact ⟨fun b hb => ⟨(h1 b hb).1, by have := (h1 b hb).2; omega⟩, h2, sl, by rw [hs _ h2]; exact h3, h7.same fun q n c e => hs _ (h8 q n c e).1, h8⟩

theorem idx_drop : ∀ (T : List ByteArray) (x : ByteArray) (i : Nat), (∀ j, j < i → T[j]? ≠ some x) → idxOf T x = (idxOf (T.drop i) x).map (· + i) := by
  intro T; induction T with
  | nil => intro x i _; simp [idxOf]
  | cons y T ih =>
    intro x i h
    cases i with
    | zero => simp
    | succ i =>
      have h0 : ¬ y = x := by have := h 0 (by omega); simpa using this
      rw [idxOf, if_neg h0, ih x i (fun j hj => by have := h (j + 1) (by omega); simpa using this), List.drop_succ_cons]
      cases idxOf (T.drop i) x with
      | none => rfl
      | some j => simp; omega

set_option maxHeartbeats 4000000 in
theorem rfind_spec {lo p : Nat} {T : List ByteArray} {x : ByteArray} {O : Nat → Prop} (hlen : T.length ≤ 1099511627776) (hT : RTab lo s p T O) (h : R (match idxOf T x with | some j => .tuple #[.int .i64 ((j + 1 : Nat) : Int), .bool true] | none => .tuple #[.int .i64 0, .bool false]) s) :
    CCalls Try.prog w0 22 #[.pointer (some ⟨p, 0, none⟩), .string x] s R := by
  refine wfun2 hmix ok22 (l := [.pointer (some ⟨p, 0, none⟩), .string x]) func22 rfl ntmps22 results22 (by simp) ?_
  obtain ⟨h1, h2, sl, h3, h7, h8⟩ := hT
  simp -implicitDefEqProofs only [↓Zd, (Zp), if_true, if_false, ne_eq, implies_true, forall_const, Nat.reduceEqDiff, reduceIte, reduceCtorEq, Int.reduceEq, Int.reduceNeg, Int.reduceLE, Int.reduceLT, Nat.reduceAdd, Nat.reduceLeDiff, Int.reduceToNat, Nat.reduceMul, Nat.reduceBEq, okPart, Value.cells, cut, okCell, cld2, underlying3, underlying4, underlying9, underlying5, underlying44, underlying0, be4, bn4]
  refine wloop_fix hmix [7, 8, 9, 10, 11, 12, 13, 16, 17, 18, 19, 20, 21, 22, 23, 24, 25, 26, 4, 5, 14, 15, 6] (fun k env s' => ∃ i : Nat, k = T.length - i ∧ i ≤ T.length ∧ env 6 = .int .i64 i ∧ s' = s ∧ ∀ j, j < i → T[j]? ≠ some x) (T.length - 0) ?_ ?_
  · exact ⟨0, rfl, by omega, rfl, rfl, fun j hj => by omega⟩
  · rintro k env s' hF ⟨i, rfl, hi, e6, rfl, hno⟩
    have e0 : env 0 = .pointer (some ⟨p, 0, none⟩) := by rw [hF 0 rfl]; rfl
    have e1 : env 1 = .string x := by rw [hF 1 rfl]; rfl
    by_cases hlt : i < T.length
    · have hlt' : (i : Int) < (T.length : Int) := by omega
      have h0 : (0 : Int) ≤ (i : Int) := by omega
      have w7 : IntKind.i64.wrap ((i : Int) + 1) = ((i + 1 : Nat) : Int) := by rw [wrap_i64 (by omega)]; omega
      rcases h7 with ⟨e2, _, rfl⟩ | ⟨b, c, rfl, _, h9, _⟩
      · omega
      have hx : (T.map Value.string)[i]? = some (.string T[i]) := by simp [hlt]
      by_cases he : T[i] = x
      · have hidx : idxOf T x = some i := by
          rw [idx_drop T x i hno, List.drop_eq_getElem_cons hlt, idxOf, if_pos he]; simp
        rw [hidx] at h
        simp -implicitDefEqProofs only [↓Zd, (Zp), if_true, if_false, ne_eq, implies_true, forall_const, Nat.reduceEqDiff, reduceIte, reduceCtorEq, Int.reduceEq, Int.reduceNeg, Int.reduceLE, Int.reduceLT, Nat.reduceAdd, Nat.reduceLeDiff, Int.reduceToNat, Nat.reduceMul, Nat.reduceBEq, okPart, Value.cells, cut, okCell, cld2, underlying3, underlying4, underlying9, underlying5, underlying44, underlying0, be4, bn4, underlying22, e0, e1, e6, h3, h9, fa29x0, ag22, ag9, sz9, hlt', h0, hx, he, w7, Nat.mul_one, Nat.zero_add]
        exact h
      · simp -implicitDefEqProofs only [↓Zd, (Zp), if_true, if_false, ne_eq, implies_true, forall_const, Nat.reduceEqDiff, reduceIte, reduceCtorEq, Int.reduceEq, Int.reduceNeg, Int.reduceLE, Int.reduceLT, Nat.reduceAdd, Nat.reduceLeDiff, Int.reduceToNat, Nat.reduceMul, Nat.reduceBEq, okPart, Value.cells, cut, okCell, cld2, underlying3, underlying4, underlying9, underlying5, underlying44, underlying0, be4, bn4, underlying22, e0, e1, e6, h3, h9, fa29x0, ag22, ag9, sz9, hlt', h0, hx, he, w7, Nat.mul_one, Nat.zero_add]
        refine ⟨?_, T.length - (i + 1), by omega, i + 1, rfl, by omega, rfl, ?_⟩
        · repeat (first | exact hF | refine Fix.upd (by decide) ?_)
        · intro j hj
          rcases Nat.lt_or_ge j i with h' | h'
          · exact hno j h'
          · have : j = i := by omega
            subst this
            simp [hlt, he]
    · have hlt' : ¬ (i : Int) < (T.length : Int) := by omega
      have hidx : idxOf T x = none := by
        rw [idx_drop T x i hno, List.drop_eq_nil_of_le (by omega)]; rfl
      rw [hidx] at h
      rcases h7 with ⟨e2, _, rfl⟩ | ⟨b, c, rfl, _, h9, _⟩
      · have : (i : Int) = 0 := by omega
        have hlt2 : ¬ (i : Int) < 0 := by omega
        simp -implicitDefEqProofs only [↓Zd, (Zp), if_true, if_false, ne_eq, implies_true, forall_const, Nat.reduceEqDiff, reduceIte, reduceCtorEq, Int.reduceEq, Int.reduceNeg, Int.reduceLE, Int.reduceLT, Nat.reduceAdd, Nat.reduceLeDiff, Int.reduceToNat, Nat.reduceMul, Nat.reduceBEq, okPart, Value.cells, cut, okCell, cld2, underlying3, underlying4, underlying9, underlying5, underlying44, underlying0, be4, bn4, underlying22, e0, e1, e6, h3, fa29x0, ag22, hlt2]
        exact h
      · simp -implicitDefEqProofs only [↓Zd, (Zp), if_true, if_false, ne_eq, implies_true, forall_const, Nat.reduceEqDiff, reduceIte, reduceCtorEq, Int.reduceEq, Int.reduceNeg, Int.reduceLE, Int.reduceLT, Nat.reduceAdd, Nat.reduceLeDiff, Int.reduceToNat, Nat.reduceMul, Nat.reduceBEq, okPart, Value.cells, cut, okCell, cld2, underlying3, underlying4, underlying9, underlying5, underlying44, underlying0, be4, bn4, underlying22, e0, e1, e6, h3, fa29x0, ag22, hlt']
        exact h

set_option maxHeartbeats 4000000 in
theorem rof_spec {lo p : Nat} {T : List ByteArray} {x : ByteArray} {O : Nat → Prop} (hT : RTab lo s p T O) (hlo : lo ≤ s.next) (hlen : T.length ≤ 1099511627776)
    (h : ∀ s' O', RTab lo s' p (ofT T x) O' → s.next ≤ s'.next → (∀ b, b < s.next → ¬ O b → s'.at' b = s.at' b) → (∀ b, O' b → O b ∨ s.next ≤ b) → R (.int .i64 (ofN T x)) s') :
    CCalls Try.prog w0 19 #[.pointer (some ⟨p, 0, none⟩), .string x] s R := by
  refine wfun2 hmix ok19 (l := [.pointer (some ⟨p, 0, none⟩), .string x]) func19 rfl ntmps19 results19 (by simp) ?_
  have hT0 := hT
  obtain ⟨h1, h2, sl, h3, h7, h8⟩ := hT
  simp -implicitDefEqProofs only [↓Zd, (Zp), if_true, if_false, ne_eq, implies_true, forall_const, Nat.reduceEqDiff, reduceIte, reduceCtorEq, Int.reduceEq, Int.reduceNeg, Int.reduceLE, Int.reduceLT, Nat.reduceAdd, Nat.reduceLeDiff, Int.reduceToNat, Nat.reduceMul, Nat.reduceBEq, okPart, Value.cells, cut, okCell, cld2, underlying3, underlying4, underlying9, underlying5, underlying44, underlying0, be4, bn4, co22]
  refine rfind_spec hlen hT0 ?_
  cases hi : idxOf T x with
  | some j =>
    unfold ofT ofN at h
    simp only [hi] at h
    simp -implicitDefEqProofs only [↓Zd, (Zp), if_true, if_false, ne_eq, implies_true, forall_const, Nat.reduceEqDiff, reduceIte, reduceCtorEq, Int.reduceEq, Int.reduceNeg, Int.reduceLE, Int.reduceLT, Nat.reduceAdd, Nat.reduceLeDiff, Int.reduceToNat, Nat.reduceMul, Nat.reduceBEq, okPart, Value.cells, cut, okCell, cld2, underlying3, underlying4, underlying9, underlying5, underlying44, underlying0, be4, bn4, underlying32]
    exact h s O hT0 (Nat.le_refl _) (fun _ _ _ => rfl) (fun b hb => .inl hb)
  | none =>
    unfold ofT ofN at h
    simp only [hi] at h
    obtain ⟨s3, happ, hn3, hat3, hk3⟩ := app_str (x := x) hlen h7 (fun q n c e => (h1 _ (h8 q n c e).1).2)
    have hp3 : s3.at' p = some (.cells [sl] 29 true) := by rw [hk3 p (h1 p h2).2 (fun q n c e => (h8 q n c e).2.symm)]; exact h3
    have hpn : p < s.next := (h1 p h2).2
    simp -implicitDefEqProofs only [↓Zd, (Zp), if_true, if_false, ne_eq, implies_true, forall_const, Nat.reduceEqDiff, reduceIte, reduceCtorEq, Int.reduceEq, Int.reduceNeg, Int.reduceLE, Int.reduceLT, Nat.reduceAdd, Nat.reduceLeDiff, Int.reduceToNat, Nat.reduceMul, Nat.reduceBEq, okPart, Value.cells, cut, okCell, cld2, underlying3, underlying4, underlying9, underlying5, underlying44, underlying0, be4, bn4, underlying22, underlying32, h3, fa29x0, ag22, sz22, rowStr, happ, hp3]
    refine h _ (fun b => b = p ∨ b = s.next + 1) ⟨?_, .inl rfl, .slice (some ⟨s.next + 1, 0, none⟩) (T.length + 1) UNK, ?_, ?_, ?_⟩ ?_ ?_ ?_
    · rintro b (rfl | rfl)
      · exact ⟨(h1 _ h2).1, by simp only [St.next_put]; omega⟩
      · exact ⟨by omega, by simp only [St.next_put]; omega⟩
    · rw [St.at_put, if_pos rfl]
    · refine .inr ⟨s.next + 1, UNK, by simp, .inl rfl, ?_, by simp⟩
      rw [St.at_put, if_neg (by omega)]
      exact hat3
    · intro q n c e
      cases e
      exact ⟨.inr rfl, by show s.next + 1 ≠ p; omega⟩
    · simp only [St.next_put]; omega
    · intro b hb ho
      rw [St.at_put, if_neg (fun e : b = p => ho (e ▸ h2))]
      exact hk3 b hb (fun q n c e e2 => ho (e2 ▸ (h8 q n c e).1))
    · rintro b (rfl | rfl)
      · exact .inl h2
      · exact .inr (by omega)

set_option maxHeartbeats 4000000 in
theorem rtext_spec {lo p : Nat} {T : List ByteArray} {O : Nat → Prop} {i : Int} (hi : -9223372036854775808 ≤ i ∧ i ≤ 9223372036854775807) (hT : RTab lo s p T O) (h : R (txtV T i) s) : CCalls Try.prog w0 24 #[.pointer (some ⟨p, 0, none⟩), .int .i64 i] s R := by
  refine wfun2 hmix ok24 (l := [.pointer (some ⟨p, 0, none⟩), .int .i64 i]) func24 rfl ntmps24 results24 (by simp) ?_
  obtain ⟨h1, h2, sl, h3, h7, h8⟩ := hT
  unfold txtV at h
  by_cases i1 : i < 1
  · rw [if_neg (by omega)] at h
    simp -implicitDefEqProofs only [↓Zd, (Zp), if_true, if_false, ne_eq, implies_true, forall_const, Nat.reduceEqDiff, reduceIte, reduceCtorEq, Int.reduceEq, Int.reduceNeg, Int.reduceLE, Int.reduceLT, Nat.reduceAdd, Nat.reduceLeDiff, Int.reduceToNat, Nat.reduceMul, Nat.reduceBEq, okPart, Value.cells, cut, okCell, cld2, underlying3, underlying4, underlying9, underlying5, underlying44, underlying0, be4, bn4, i1]
    exact h
  · rcases h7 with ⟨e1, _, rfl⟩ | ⟨b, c, rfl, _, h9, _⟩
    · have i2 : 0 < i := by omega
      rw [if_neg (by omega)] at h
      simp -implicitDefEqProofs only [↓Zd, (Zp), if_true, if_false, ne_eq, implies_true, forall_const, Nat.reduceEqDiff, reduceIte, reduceCtorEq, Int.reduceEq, Int.reduceNeg, Int.reduceLE, Int.reduceLT, Nat.reduceAdd, Nat.reduceLeDiff, Int.reduceToNat, Nat.reduceMul, Nat.reduceBEq, okPart, Value.cells, cut, okCell, cld2, underlying3, underlying4, underlying9, underlying5, underlying44, underlying0, be4, bn4, underlying22, h3, fa29x0, ag22, i1, i2]
      exact h
    · by_cases i2 : (T.length : Int) < i
      · rw [if_neg (by omega)] at h
        simp -implicitDefEqProofs only [↓Zd, (Zp), if_true, if_false, ne_eq, implies_true, forall_const, Nat.reduceEqDiff, reduceIte, reduceCtorEq, Int.reduceEq, Int.reduceNeg, Int.reduceLE, Int.reduceLT, Nat.reduceAdd, Nat.reduceLeDiff, Int.reduceToNat, Nat.reduceMul, Nat.reduceBEq, okPart, Value.cells, cut, okCell, cld2, underlying3, underlying4, underlying9, underlying5, underlying44, underlying0, be4, bn4, underlying22, h3, fa29x0, ag22, i1, i2]
        exact h
      · rw [if_pos (by omega)] at h
        obtain ⟨j, rfl⟩ : ∃ j : Nat, i = ((j + 1 : Nat) : Int) := ⟨(i - 1).toNat, by omega⟩
        have w1 : IntKind.i64.wrap (((j + 1 : Nat) : Int) - 1) = (j : Int) := by rw [wrap_i64 (by omega)]; omega
        have hj : (0 : Int) ≤ (j : Int) ∧ (j : Int) < (T.length : Int) := by omega
        have hx : (T.map Value.string)[j]? = some (.string (T.getD j ⟨#[]⟩)) := by
          have : j < T.length := by omega
          simp [this]
        simp -implicitDefEqProofs only [↓Zd, (Zp), if_true, if_false, ne_eq, implies_true, forall_const, Nat.reduceEqDiff, reduceIte, reduceCtorEq, Int.reduceEq, Int.reduceNeg, Int.reduceLE, Int.reduceLT, Nat.reduceAdd, Nat.reduceLeDiff, Int.reduceToNat, Nat.reduceMul, Nat.reduceBEq, okPart, Value.cells, cut, okCell, cld2, underlying3, underlying4, underlying9, underlying5, underlying44, underlying0, be4, bn4, underlying22, h3, h9, fa29x0, ag22, ag9, sz9, i1, i2, w1, hj, hx, Nat.mul_one, Nat.zero_add]
        simpa using h

theorem newTab (m : Nat) : cbuild Try.prog 41 #[(0, .map (some m))] = some (.agg #[.map (some m), .slice none 0 0]) := by kernel_rfl
theorem new_spec {lo : Nat} (hlo : lo ≤ s.next) (h : ∀ s' p O, TabAt lo s' p [] O → s.le s' → (∀ b, O b → s.next ≤ b) → R (.pointer (some ⟨p, 0, none⟩)) s') : CCalls Try.prog w0 17 #[] s R := by
  refine wfun2 hmix ok17 (l := []) func17 rfl ntmps17 results17 (by simp) ?_
  simp -implicitDefEqProofs only [↓Zd, (Zp), if_true, if_false, ne_eq, implies_true, forall_const, Nat.reduceEqDiff, reduceIte, reduceCtorEq, Int.reduceEq, Int.reduceNeg, Int.reduceLE, Int.reduceLT, Nat.reduceAdd, Nat.reduceLeDiff, Int.reduceToNat, Nat.reduceMul, Nat.reduceBEq, okPart, Value.cells, cut, okCell, cld2, underlying3, underlying4, underlying9, underlying5, underlying44, underlying0, be4, bn4, underlying25, newTab, is41]
  refine h _ _ (fun b => b = s.next ∨ b = s.next + 1) ⟨?_, .inr rfl, s.next, .slice none 0 0, ?_, ?_, .inl rfl, by omega, .inl ⟨rfl, rfl, rfl⟩, fun q n c e => by cases e⟩ (by repeat (first | exact St.le_refl _ | assumption | refine St.le_new ?_ | refine St.le_put ?_ (by first | omega | (simp only [St.next_new, St.next_put, St.next_kill]; omega)) | refine St.le_trans ?_ (by assumption))) ?_
  · rintro b (rfl | rfl) <;> (simp only [St.next_new]; omega)
  · simp
  · simp; rfl
  · rintro b (rfl | rfl) <;> omega
end
end Go.Proofs.Try
