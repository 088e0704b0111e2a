/- The document's heap: the walks of its table of names, and of an object's properties. A lemma file: no statement of its own. -/
import Derived.Test.YtakgfhdaimeafaaGreatqFwF
import Derived.Test.YtakgfhdaimeafaaGreatqRH2
set_option linter.unusedSimpArgs false
set_option linter.unusedVariables false
set_option linter.unusedSectionVars false
namespace Go.Proofs.Tryz
open Go.Cs
open Go.RowKit (Below)
set_option maxRecDepth 100000
attribute [local irreducible] CCalls WLoop WScope CRound WRange
theorem idx_drop : ∀ (T : List ByteArray) (x : ByteArray) (i : Nat), (∀ j, j < i → T[j]? ≠ some x) → idxOf T x = (idxOf (T.drop i) x).map (· + i) := by
  intro T; induction T with
  | nil => intro x i _; simp [idxOf]
  | cons y T ih =>
    intro x i h
    cases i with
    | zero => simp
    | succ i =>
      have h0 : ¬ y = x := by have := h 0 (by omega); simpa using this
      rw [idxOf, if_neg h0, ih x i (fun j hj => by have := h (j + 1) (by omega); simpa using this), List.drop_succ_cons]
      cases idxOf (T.drop i) x with
      | none => rfl
      | some j => simp; omega
theorem idx_pos {T : List ByteArray} {x : ByteArray} {i : Nat} (hlt : i < T.length) (hno : ∀ j, j < i → T[j]? ≠ some x) (he : T[i] = x) : idxOf T x = some i := by
  rw [idx_drop T x i hno, List.drop_eq_getElem_cons hlt, idxOf, if_pos he]; simp
theorem idx_end {T : List ByteArray} {x : ByteArray} {i : Nat} (hlt : ¬ i < T.length) (hno : ∀ j, j < i → T[j]? ≠ some x) : idxOf T x = none := by
  rw [idx_drop T x i hno, List.drop_eq_nil_of_le (by omega)]; rfl
theorem no_more {T : List ByteArray} {x : ByteArray} {i : Nat} (hlt : i < T.length) (hno : ∀ j, j < i → T[j]? ≠ some x) (he : ¬ T[i] = x) : ∀ j, j < i + 1 → T[j]? ≠ some x := by
  intro j hj
  rcases Nat.lt_or_ge j i with h' | h'
  · exact hno j h'
  · have : j = i := by omega
    subst this
    simp [hlt, he]
section
variable {M : Type} [Mem M] {w0 : World} {s : St M} {R : Value → St M → Prop}
theorem slc_form {e : TypeId} {sz : Nat} {v : Value} {cs : List Value} {n : Nat} (h : SlC e sz s v cs n) : ∃ a c, v = .slice a n c := by
  rcases h with ⟨e, _, rfl⟩ | ⟨b, c, rfl, _⟩
  · exact ⟨none, 0, by rw [e]⟩
  · exact ⟨_, _, rfl⟩
theorem slc_str {v : Value} {T : List ByteArray} (h : SlC 9 1 s v (T.map .string) T.length) {k : Nat} (hk : k < T.length) : ∃ b c, v = .slice (some ⟨b, 0, none⟩) T.length c ∧ s.at' b = some (.cells (T.map .string) 9 true) ∧ (T.map Value.string)[k]? = some (.string T[k]) := by
  rcases h with ⟨e, _, rfl⟩ | ⟨b, c, rfl, _, h9, _⟩
  · omega
  · exact ⟨b, c, rfl, h9, by simp [hk]⟩
set_option maxHeartbeats 4000000 in
theorem rtfind_spec {p : Nat} {T : List ByteArray} {x : ByteArray} {a b c d sl : Value} (hlen : T.length ≤ 1000000) (h3 : s.at' p = some (.cells [a, b, c, d, sl] 78 true)) (h7 : SlC 9 1 s sl (T.map .string) T.length)
    (h : R (match idxOf T x with | some j => .tuple #[.int .i64 ((j + 1 : Nat) : Int), .bool true] | none => .tuple #[.int .i64 0, .bool false]) s) :
    CCalls Tryz.prog w0 101 #[.pointer (some ⟨p, 4, none⟩), .string x] s R := by
  refine wfun2 hmix ok101 (l := [.pointer (some ⟨p, 4, none⟩), .string x]) func101 rfl ntmps101 results101 (by simp) ?_
  obtain ⟨q, cap, rfl⟩ := slc_form h7
  simp -implicitDefEqProofs only [↓Zd, (Zp)]
  refine wloop_inv hmix (fun fuel env s' => ∃ i : Nat, fuel = T.length - i ∧ i ≤ T.length ∧ env 6 = .int .i64 (i : Int) ∧ env 0 = .pointer (some ⟨p, 4, none⟩) ∧ env 1 = .string x ∧ s' = s ∧ ∀ j, j < i → T[j]? ≠ some x) T.length ⟨0, rfl, by omega, rfl, rfl, rfl, rfl, fun j hj => by omega⟩ ?_
  rintro fuel env s' ⟨i, rfl, hi, e6, e0, e1, rfl, hno⟩
  by_cases hlt : (i : Int) < (T.length : Int)
  · have hlt0 : i < T.length := by omega
    have hk : (0 : Int) ≤ (i : Int) ∧ (i : Int) < (T.length : Int) := by omega
    have w7 : IntKind.i64.wrap ((i : Int) + 1) = ((i + 1 : Nat) : Int) := by rw [wrap_i64 (by omega)]; omega
    obtain ⟨bb, cc, eb, h9, hx⟩ := slc_str h7 (k := i) hlt0
    cases eb
    by_cases he : T[i] = x
    · rw [idx_pos hlt0 hno he] at h
      simp -implicitDefEqProofs only [↓Zd, (Zp), if_true, if_false, Nat.reduceEqDiff, reduceCtorEq, Nat.reduceAdd, cld2, (HEx), (REx), e0, e1, e6, h3, h9, hlt, hk, hx, he, w7]
      exact h
    · simp -implicitDefEqProofs only [↓Zd, (Zp), if_true, if_false, ne_eq, Nat.reduceEqDiff, reduceCtorEq, Nat.reduceAdd, cld2, (HEx), (REx), e0, e1, e6, h3, h9, hlt, hk, hx, he, w7]
      exact ⟨T.length - (i + 1), by omega, i + 1, rfl, by omega, rfl, no_more hlt0 hno he⟩
  · rw [idx_end (by omega) hno] at h
    simp -implicitDefEqProofs only [↓Zd, (Zp), if_true, if_false, Nat.reduceEqDiff, reduceCtorEq, Nat.reduceAdd, cld2, (REx), e0, e6, h3, hlt]
    exact h
set_option maxHeartbeats 4000000 in
theorem rtof_spec {p : Nat} {T : List ByteArray} {x : ByteArray} {a b c d sl : Value} (hp : p < s.next) (hlen : T.length ≤ 1000000) (h3 : s.at' p = some (.cells [a, b, c, d, sl] 78 true)) (h7 : SlC 9 1 s sl (T.map .string) T.length) (h8 : ∀ q n c, sl = .slice (some q) n c → q.block < s.next ∧ q.block ≠ p)
    (h : ∀ s' sl', s'.at' p = some (.cells [a, b, c, d, sl'] 78 true) → SlC 9 1 s' sl' ((ofT T x).map .string) (ofT T x).length → s.next ≤ s'.next → (∀ b, b < s.next → b ≠ p → (∀ q n c, sl = .slice (some q) n c → b ≠ q.block) → s'.at' b = s.at' b) →
      (∀ q n c, sl' = .slice (some q) n c → sl = sl' ∨ (s.next ≤ q.block ∧ q.block < s'.next)) → R (.int .i64 (ofI T x : Int)) s') :
    CCalls Tryz.prog w0 88 #[.pointer (some ⟨p, 4, none⟩), .string x] s R := by
  refine wfun2 hmix ok88 (l := [.pointer (some ⟨p, 4, none⟩), .string x]) func88 rfl ntmps88 results88 (by simp) ?_
  simp -implicitDefEqProofs only [↓Zd, (Zp), if_true, if_false, Nat.reduceEqDiff, reduceCtorEq, co101]
  refine rtfind_spec hlen h3 h7 ?_
  cases hi : idxOf T x with
  | some j =>
    have e1 : ofI T x = j + 1 := by unfold ofI; rw [hi]
    rw [ofT_some hi, e1] at h
    simp -implicitDefEqProofs only [↓Zd, (Zp), if_true, if_false, Nat.reduceEqDiff, (HEx)]
    exact h s _ h3 h7 (Nat.le_refl _) (fun _ _ _ _ => rfl) (fun q n c e => .inl rfl)
  | none =>
    have e1 : ofI T x = T.length + 1 := by unfold ofI; rw [hi]
    rw [ofT_none hi, e1] at h
    obtain ⟨s3, happ, hn3, hat3, hk3⟩ := app_str (x := x) (by omega) h7 (fun q n c e => (h8 q n c e).1)
    have hp3 : s3.at' p = some (.cells [a, b, c, d, sl] 78 true) := by rw [hk3 p hp (fun q n c e => (h8 q n c e).2.symm)]; exact h3
    simp -implicitDefEqProofs only [↓Zd, (Zp), if_true, if_false, Nat.reduceEqDiff, reduceCtorEq, Nat.reduceAdd, Nat.reduceLeDiff, okPart, Value.cells, okCell, cld2, (HEx), (REx), h3, rowStr, happ, hp3]
    refine h _ (.slice (some ⟨s.next + 1, 0, none⟩) (T.length + 1) UNK) ?_ ?_ ?_ ?_ ?_
    · rw [St.at_put, if_pos rfl]
    · refine .inr ⟨s.next + 1, UNK, by simp, .inl rfl, ?_, by simp⟩
      rw [St.at_put, if_neg (by omega)]
      exact hat3
    · simp only [St.next_put]; omega
    · intro b hb hbp hq
      rw [St.at_put, if_neg hbp]
      exact hk3 b hb hq
    · intro q n c e
      cases e
      exact .inr ⟨by show s.next ≤ s.next + 1; omega, by show s.next + 1 < _; simp only [St.next_put]; omega⟩
set_option maxHeartbeats 4000000 in
theorem rttext_spec {p : Nat} {T : List ByteArray} {i : Int} {a b c d sl : Value} (hi : -9223372036854775808 ≤ i ∧ i ≤ 9223372036854775807) (h3 : s.at' p = some (.cells [a, b, c, d, sl] 78 true)) (h7 : SlC 9 1 s sl (T.map .string) T.length)
    (h : R (txtV T i) s) : CCalls Tryz.prog w0 82 #[.pointer (some ⟨p, 4, none⟩), .int .i64 i] s R := by
  refine wfun2 hmix ok82 (l := [.pointer (some ⟨p, 4, none⟩), .int .i64 i]) func82 rfl ntmps82 results82 (by simp) ?_
  unfold txtV at h
  obtain ⟨q, cap, rfl⟩ := slc_form h7
  by_cases i1 : i < 1
  · rw [if_neg (by omega)] at h
    simp -implicitDefEqProofs only [↓Zd, (Zp), if_true, if_false, Nat.reduceEqDiff, i1]
    exact h
  · by_cases i2 : (T.length : Int) < i
    · rw [if_neg (by omega)] at h
      simp -implicitDefEqProofs only [↓Zd, (Zp), if_true, if_false, Nat.reduceEqDiff, reduceCtorEq, Nat.reduceAdd, cld2, (REx), h3, i1, i2]
      exact h
    · rw [if_pos (by omega)] at h
      obtain ⟨j, rfl⟩ : ∃ j : Nat, i = ((j + 1 : Nat) : Int) := ⟨(i - 1).toNat, by omega⟩
      have w1 : IntKind.i64.wrap (((j + 1 : Nat) : Int) - 1) = (j : Int) := by rw [wrap_i64 (by omega)]; omega
      have hj : (0 : Int) ≤ (j : Int) ∧ (j : Int) < (T.length : Int) := by omega
      obtain ⟨bb, cc, eb, h9, hx⟩ := slc_str h7 (k := j) (by omega)
      cases eb
      have hx2 : T[j]'(by omega) = T.getD j ⟨#[]⟩ := by
        have : j < T.length := by omega
        simp [this]
      rw [hx2] at hx
      simp -implicitDefEqProofs only [↓Zd, (Zp), if_true, if_false, Nat.reduceEqDiff, reduceCtorEq, Nat.reduceAdd, cld2, (HEx), (REx), h3, h9, i1, i2, w1, hj, hx]
      simpa using h
end
end Go.Proofs.Tryz
