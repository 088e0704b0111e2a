/- Tables of names, in both texts: what they hold, and the walks of what asks them. A lemma file: no statement of its own. -/
import Derived.Test.YtnkichmojbanlaaqFacts
import Derived.Test.YtnkichmojbanlaaqTypes
import Derived.Test.YtnkichmojbanlaaqFwF
set_option linter.unusedSimpArgs false
set_option linter.unusedVariables false
set_option linter.unusedSectionVars false
namespace Go.Proofs.Try
open Go.Cs
open Go.RowKit (Below)
set_option maxRecDepth 100000
attribute [local irreducible] CCalls WLoop WScope
def idxOf : List ByteArray → ByteArray → Option Nat
  | [], _ => none
  | y :: T, x => if y = x then some 0 else (idxOf T x).map (· + 1)
def entsFrom : List ByteArray → Nat → List MapEntry
  | [], _ => []
  | y :: T, i => { key := .string y, val := .int .i64 ((i + 1 : Nat) : Int), born := i } :: entsFrom T (i + 1)
theorem ents_app : ∀ (T : List ByteArray) (x : ByteArray) (i : Nat), entsFrom (T ++ [x]) i = entsFrom T i ++ [{ key := .string x, val := .int .i64 ((i + T.length + 1 : Nat) : Int), born := i + T.length }] := by
  intro T; induction T with
  | nil => intro x i; rfl
  | cons y T ih => intro x i; simp only [List.cons_append, entsFrom, ih, List.length_cons]; rw [show i + 1 + T.length = i + (T.length + 1) from by omega]
theorem find_ents : ∀ (T : List ByteArray) (x : ByteArray) (i : Nat), Instr.findNow .string (.string x) (entsFrom T i) i = some ((idxOf T x).map fun j => (i + j, .int .i64 ((i + j + 1 : Nat) : Int))) := by
  intro T; induction T with
  | nil => intro x i; rfl
  | cons y T ih =>
    intro x i
    simp only [entsFrom, Instr.findNow, Instr.sameNow, idxOf]
    by_cases e : y = x
    · subst e
      have : (y == y) = true := ba_beq_iff.2 rfl
      rw [this]
      simp
    · have : (x == y) = false := by rw [Bool.eq_false_iff]; intro h; exact e (ba_beq_iff.1 h).symm
      rw [this]
      simp only [if_neg e, ih]
      cases idxOf T x with
      | none => rfl
      | some j => simp; omega
theorem cfind_ents (T : List ByteArray) (x : ByteArray) : cfind Try.prog 9 (.string x) (entsFrom T 0) = some ((idxOf T x).map fun j => (j, .int .i64 ((j + 1 : Nat) : Int))) := by
  unfold cfind
  rw [if_pos (show plain 6 (Value.string x) = true from rfl), underlying9]
  simp only [find_ents, Nat.zero_add]
theorem idx_lt : ∀ {T : List ByteArray} {x : ByteArray} {j : Nat}, idxOf T x = some j → j < T.length ∧ T[j]? = some x := by
  intro T; induction T with
  | nil => intro x j h; cases h
  | cons y T ih =>
    intro x j h
    unfold idxOf at h
    split at h
    · rename_i e; cases h; simp [e]
    · obtain ⟨i, hi, rfl⟩ := Option.map_eq_some_iff.1 h
      have := ih hi
      simpa using this
def ofT (T : List ByteArray) (x : ByteArray) : List ByteArray := match idxOf T x with
  | some _ => T
  | none => T ++ [x]
def ofN (T : List ByteArray) (x : ByteArray) : Int := match idxOf T x with
  | some j => ((j + 1 : Nat) : Int)
  | none => ((T.length + 1 : Nat) : Int)
theorem infoStr : ∃ ie, Try.prog.info? 9 = some ie ∧ ie.size = 1 ∧ ie.bytes = 16 := by
  obtain ⟨ie, h⟩ := Option.isSome_iff_exists.1 is9
  have h1 := ce9
  have h2 : Try.prog.bytesOf 9 = 16 := by kernel_rfl
  rw [cellsOf_info h] at h1
  simp only [Program.bytesOf, h] at h2
  exact ⟨ie, h, h1, h2⟩
theorem rowStr (x : ByteArray) : crow Try.prog 129 1 #[(0, .string x)] = some (.cells [.string x] 9 true) := by kernel_rfl
section
variable {M : Type} [Mem M] {w0 : World} {s : St M} {R : Value → St M → Prop}
theorem app_str {s : St M} {sl : Value} {T : List ByteArray} {x : ByteArray} (hlen : T.length ≤ 1099511627776) (hsl : SlC 9 1 s sl (T.map .string) T.length) (hfr : ∀ q m c, sl = .slice (some q) m c → q.block < s.next) :
    ∃ s', capp Try.prog #[129, 129] #[sl, .slice (some ⟨s.next, 0, none⟩) 1 1] (s.new (.cells [.string x] 9 true)) = some (.slice (some ⟨s.next + 1, 0, none⟩) (T.length + 1) UNK, s') ∧ s'.next = s.next + 2 ∧
      s'.at' (s.next + 1) = some (.cells ((T ++ [x]).map .string) 9 true) ∧ (∀ b, b < s.next → (∀ q m c, sl = .slice (some q) m c → b ≠ q.block) → s'.at' b = s.at' b) := by
  obtain ⟨ie, hie, h1, h2⟩ := infoStr
  have hcapp : capp Try.prog #[129, 129] #[sl, .slice (some ⟨s.next, 0, none⟩) 1 1] (s.new (.cells [.string x] 9 true)) = capp3 Try.prog 9 ie sl (s.new (.cells [.string x] 9 true)) (cmore ie.size (.slice (some ⟨s.next, 0, none⟩) 1 1) (s.new (.cells [.string x] 9 true))) :=
    app_eq underlying129 underlying129 hie
  have hv : cmore ie.size (.slice (some ⟨s.next, 0, none⟩) 1 1) (s.new (.cells [.string x] 9 true)) = some (1, [.string x]) := by
    simp only [more_at, St.at_new, if_true, more2, h1]; rfl
  obtain ⟨s', h3, h4, h5, h6⟩ := app_row (n := T.length) (k := 1) hie ze9 (by rw [h1]; rfl) (by omega) hcapp (by omega) (by rw [h2]; omega) rfl hv (by rw [h1]; exact hsl.same fun q m c e => by rw [St.at_new, if_neg (by have := hfr q m c e; omega)])
  refine ⟨s', by simpa using h3, by simp at h4; omega, by simpa using h5, fun b hb hq => ?_⟩
  rw [h6 b (by simp; omega) hq, St.at_new, if_neg (by omega)]
structure TabAt (lo : Nat) (s : St M) (p : Nat) (T : List ByteArray) (O : Nat → Prop) : Prop where
  own : ∀ b, O b → lo ≤ b ∧ b < s.next
  pin : O p
  bl : ∃ m sl, s.at' p = some (.cells [.map (some m), sl] 131 true) ∧ s.at' m = some (.map (entsFrom T 0) T.length) ∧ O m ∧ m ≠ p ∧ SlC 9 1 s sl (T.map .string) T.length ∧ (∀ q n c, sl = .slice (some q) n c → O q.block ∧ q.block ≠ p ∧ q.block ≠ m)
theorem TabAt.same {lo : Nat} {s s' : St M} {p : Nat} {T : List ByteArray} {O : Nat → Prop} (h : TabAt lo s p T O) (hn : s.next ≤ s'.next) (hs : ∀ b, O b → s'.at' b = s.at' b) : TabAt lo s' p T O := by
  obtain ⟨h1, h2, m, sl, h3, h4, h5, h6, h7, h8⟩ := h
  exact ⟨fun b hb => ⟨(h1 b hb).1, by have := (h1 b hb).2; omega⟩, h2, m, sl, by rw [hs _ h2]; exact h3, by rw [hs _ h5]; exact h4, h5, h6, h7.same fun q n c e => hs _ (h8 q n c e).1, h8⟩
theorem dead_spec {p : Nat} {m : Nat} {sl : Value} (h0 : s.at' p = some (.cells [.map (some m), sl] 131 true)) (h : R (.bool false) s) : CCalls Try.prog w0 82 #[.pointer (some ⟨p, 0, none⟩)] s R := by
  refine wfun2 hmix ok82 (l := [.pointer (some ⟨p, 0, none⟩)]) func82 rfl ntmps82 results82 (by simp) ?_
  simp -implicitDefEqProofs only [↓Zd, (Zp), if_true, if_false, ne_eq, implies_true, forall_const, Nat.reduceEqDiff, reduceIte, reduceCtorEq, Int.reduceEq, Int.reduceNeg, Int.reduceLE, Int.reduceLT, Nat.reduceAdd, Nat.reduceLeDiff, Int.reduceToNat, Nat.reduceMul, Nat.reduceBEq, okPart, Value.cells, cut, okCell, cld2, underlying3, underlying4, underlying9, underlying5, underlying32, underlying0, be4, bn4, underlying128, h0, nf57, nf128, fa131x0, ag128]
  exact h
theorem find_spec {lo p : Nat} {T : List ByteArray} {x : ByteArray} {O : Nat → Prop} (hT : TabAt lo s p T O) (h : R (match idxOf T x with | some j => .tuple #[.int .i64 ((j + 1 : Nat) : Int), .bool true] | none => .tuple #[.int .i64 0, .bool false]) s) :
    CCalls Try.prog w0 60 #[.pointer (some ⟨p, 0, none⟩), .string x] s R := by
  refine wfun2 hmix ok60 (l := [.pointer (some ⟨p, 0, none⟩), .string x]) func60 rfl ntmps60 results60 (by simp) ?_
  obtain ⟨h1, h2, m, sl, h3, h4, h5, h6, h7, h8⟩ := hT
  simp -implicitDefEqProofs only [↓Zd, (Zp), if_true, if_false, ne_eq, implies_true, forall_const, Nat.reduceEqDiff, reduceIte, reduceCtorEq, Int.reduceEq, Int.reduceNeg, Int.reduceLE, Int.reduceLT, Nat.reduceAdd, Nat.reduceLeDiff, Int.reduceToNat, Nat.reduceMul, Nat.reduceBEq, okPart, Value.cells, cut, okCell, cld2, underlying3, underlying4, underlying9, underlying5, underlying32, underlying0, be4, bn4, co82]
  refine dead_spec h3 ?_
  cases hi : idxOf T x with
  | none =>
    rw [hi] at h
    simp -implicitDefEqProofs only [↓Zd, (Zp), if_true, if_false, ne_eq, implies_true, forall_const, Nat.reduceEqDiff, reduceIte, reduceCtorEq, Int.reduceEq, Int.reduceNeg, Int.reduceLE, Int.reduceLT, Nat.reduceAdd, Nat.reduceLeDiff, Int.reduceToNat, Nat.reduceMul, Nat.reduceBEq, okPart, Value.cells, cut, okCell, cld2, underlying3, underlying4, underlying9, underlying5, underlying32, underlying0, be4, bn4, underlying128, underlying135, h3, h4, cfind_ents, hi, ze3, fa131x0, ag128]
    exact h
  | some j =>
    rw [hi] at h
    simp -implicitDefEqProofs only [↓Zd, (Zp), if_true, if_false, ne_eq, implies_true, forall_const, Nat.reduceEqDiff, reduceIte, reduceCtorEq, Int.reduceEq, Int.reduceNeg, Int.reduceLE, Int.reduceLT, Nat.reduceAdd, Nat.reduceLeDiff, Int.reduceToNat, Nat.reduceMul, Nat.reduceBEq, okPart, Value.cells, cut, okCell, cld2, underlying3, underlying4, underlying9, underlying5, underlying32, underlying0, be4, bn4, underlying128, underlying135, h3, h4, cfind_ents, hi, ze3, fa131x0, ag128]
    exact h
set_option maxHeartbeats 4000000 in
theorem of_spec {lo p : Nat} {T : List ByteArray} {x : ByteArray} {O : Nat → Prop} (hT : TabAt lo s p T O) (hlo : lo ≤ s.next) (hlen : T.length ≤ 1099511627776)
    (h : ∀ s' O', TabAt lo s' p (ofT T x) O' → s.next ≤ s'.next → (∀ b, b < s.next → ¬ O b → s'.at' b = s.at' b) → (∀ b, O' b → O b ∨ s.next ≤ b) → R (.int .i64 (ofN T x)) s') :
    CCalls Try.prog w0 70 #[.pointer (some ⟨p, 0, none⟩), .string x] s R := by
  refine wfun2 hmix ok70 (l := [.pointer (some ⟨p, 0, none⟩), .string x]) func70 rfl ntmps70 results70 (by simp) ?_
  have hT0 := hT
  obtain ⟨h1, h2, m, sl, h3, h4, h5, h6, h7, h8⟩ := hT
  simp -implicitDefEqProofs only [↓Zd, (Zp), if_true, if_false, ne_eq, implies_true, forall_const, Nat.reduceEqDiff, reduceIte, reduceCtorEq, Int.reduceEq, Int.reduceNeg, Int.reduceLE, Int.reduceLT, Nat.reduceAdd, Nat.reduceLeDiff, Int.reduceToNat, Nat.reduceMul, Nat.reduceBEq, okPart, Value.cells, cut, okCell, cld2, underlying3, underlying4, underlying9, underlying5, underlying32, underlying0, be4, bn4, co82]
  refine dead_spec h3 ?_
  cases hi : idxOf T x with
  | some j =>
    unfold ofT ofN at h
    simp only [hi] at h
    simp -implicitDefEqProofs only [↓Zd, (Zp), if_true, if_false, ne_eq, implies_true, forall_const, Nat.reduceEqDiff, reduceIte, reduceCtorEq, Int.reduceEq, Int.reduceNeg, Int.reduceLE, Int.reduceLT, Nat.reduceAdd, Nat.reduceLeDiff, Int.reduceToNat, Nat.reduceMul, Nat.reduceBEq, okPart, Value.cells, cut, okCell, cld2, underlying3, underlying4, underlying9, underlying5, underlying32, underlying0, be4, bn4, underlying128, underlying135, h3, h4, cfind_ents, hi, ze3, fa131x0, ag128]
    exact h s O hT0 (Nat.le_refl _) (fun _ _ _ => rfl) (fun b hb => .inl hb)
  | none =>
    unfold ofT ofN at h
    simp only [hi] at h
    obtain ⟨s3, happ, hn3, hat3, hk3⟩ := app_str (x := x) hlen h7 (fun q n c e => (h1 _ (h8 q n c e).1).2)
    have hp3 : s3.at' p = some (.cells [.map (some m), sl] 131 true) := by rw [hk3 p (h1 p h2).2 (fun q n c e => (h8 q n c e).2.1.symm)]; exact h3
    have hm3 : s3.at' m = some (.map (entsFrom T 0) T.length) := by rw [hk3 m (h1 m h5).2 (fun q n c e => (h8 q n c e).2.2.symm)]; exact h4
    have hmp : ¬ m = p := h6
    have hpm : ¬ p = m := fun e => h6 e.symm
    have hpn : p < s.next := (h1 p h2).2
    have hmn : m < s.next := (h1 m h5).2
    simp -implicitDefEqProofs only [↓Zd, (Zp), if_true, if_false, ne_eq, implies_true, forall_const, Nat.reduceEqDiff, reduceIte, reduceCtorEq, Int.reduceEq, Int.reduceNeg, Int.reduceLE, Int.reduceLT, Nat.reduceAdd, Nat.reduceLeDiff, Int.reduceToNat, Nat.reduceMul, Nat.reduceBEq, okPart, Value.cells, cut, okCell, cld2, underlying3, underlying4, underlying9, underlying5, underlying32, underlying0, be4, bn4, underlying128, underlying129, underlying135, h3, h4, cfind_ents, hi, ze3, fa131x0, fa131x1, ag128, ag129, sz129, rowStr, happ, hp3, hm3, hmp, hpm]
    refine h _ (fun b => b = p ∨ b = m ∨ b = s.next + 1) ⟨?_, .inl rfl, m, .slice (some ⟨s.next + 1, 0, none⟩) (T.length + 1) UNK, ?_, ?_, .inr (.inl rfl), h6, ?_, ?_⟩ ?_ ?_ ?_
    · rintro b (rfl | rfl | rfl)
      · exact ⟨(h1 _ h2).1, by simp only [St.next_put]; omega⟩
      · exact ⟨(h1 _ h5).1, by simp only [St.next_put]; omega⟩
      · exact ⟨by omega, by simp only [St.next_put]; omega⟩
    · rw [St.at_put, if_neg hpm, St.at_put, if_pos rfl]
    · rw [St.at_put, if_pos rfl, ents_app]
      simp
    · refine .inr ⟨s.next + 1, UNK, by simp, .inl rfl, ?_, by simp⟩
      rw [St.at_put, if_neg (by omega), St.at_put, if_neg (by omega)]
      exact hat3
    · intro q n c e
      cases e
      exact ⟨.inr (.inr rfl), by show s.next + 1 ≠ p; omega, by show s.next + 1 ≠ m; omega⟩
    · simp only [St.next_put]; omega
    · intro b hb ho
      rw [St.at_put, if_neg (fun e : b = m => ho (e ▸ h5)), St.at_put, if_neg (fun e : b = p => ho (e ▸ h2))]
      exact hk3 b hb (fun q n c e e2 => ho (e2 ▸ (h8 q n c e).1))
    · rintro b (rfl | rfl | rfl)
      · exact .inl h2
      · exact .inl h5
      · exact .inr (by omega)
def txtV (T : List ByteArray) (i : Int) : Value := if 1 ≤ i ∧ i ≤ T.length then .tuple #[.string (T.getD (i.toNat - 1) ⟨#[]⟩), .bool true] else .tuple #[.string ⟨#[]⟩, .bool false]
set_option maxHeartbeats 4000000 in
theorem text_spec {lo p : Nat} {T : List ByteArray} {O : Nat → Prop} {i : Int} (hi : -9223372036854775808 ≤ i ∧ i ≤ 9223372036854775807) (hT : TabAt lo s p T O) (h : R (txtV T i) s) : CCalls Try.prog w0 88 #[.pointer (some ⟨p, 0, none⟩), .int .i64 i] s R := by
  refine wfun2 hmix ok88 (l := [.pointer (some ⟨p, 0, none⟩), .int .i64 i]) func88 rfl ntmps88 results88 (by simp) ?_
  obtain ⟨h1, h2, m, sl, h3, h4, h5, h6, h7, h8⟩ := hT
  unfold txtV at h
  simp -implicitDefEqProofs only [↓Zd, (Zp), if_true, if_false, ne_eq, implies_true, forall_const, Nat.reduceEqDiff, reduceIte, reduceCtorEq, Int.reduceEq, Int.reduceNeg, Int.reduceLE, Int.reduceLT, Nat.reduceAdd, Nat.reduceLeDiff, Int.reduceToNat, Nat.reduceMul, Nat.reduceBEq, okPart, Value.cells, cut, okCell, cld2, underlying3, underlying4, underlying9, underlying5, underlying32, underlying0, be4, bn4, co82]
  refine dead_spec h3 ?_
  by_cases i1 : i < 1
  · rw [if_neg (by omega)] at h
    simp -implicitDefEqProofs only [↓Zd, (Zp), if_true, if_false, ne_eq, implies_true, forall_const, Nat.reduceEqDiff, reduceIte, reduceCtorEq, Int.reduceEq, Int.reduceNeg, Int.reduceLE, Int.reduceLT, Nat.reduceAdd, Nat.reduceLeDiff, Int.reduceToNat, Nat.reduceMul, Nat.reduceBEq, okPart, Value.cells, cut, okCell, cld2, underlying3, underlying4, underlying9, underlying5, underlying32, underlying0, be4, bn4, i1]
    exact h
  · rcases h7 with ⟨e1, _, rfl⟩ | ⟨b, c, rfl, _, h9, _⟩
    · have i2 : 0 < i := by omega
      rw [if_neg (by omega)] at h
      simp -implicitDefEqProofs only [↓Zd, (Zp), if_true, if_false, ne_eq, implies_true, forall_const, Nat.reduceEqDiff, reduceIte, reduceCtorEq, Int.reduceEq, Int.reduceNeg, Int.reduceLE, Int.reduceLT, Nat.reduceAdd, Nat.reduceLeDiff, Int.reduceToNat, Nat.reduceMul, Nat.reduceBEq, okPart, Value.cells, cut, okCell, cld2, underlying3, underlying4, underlying9, underlying5, underlying32, underlying0, be4, bn4, underlying129, h3, fa131x1, ag129, i1, i2]
      exact h
    · by_cases i2 : (T.length : Int) < i
      · rw [if_neg (by omega)] at h
        simp -implicitDefEqProofs only [↓Zd, (Zp), if_true, if_false, ne_eq, implies_true, forall_const, Nat.reduceEqDiff, reduceIte, reduceCtorEq, Int.reduceEq, Int.reduceNeg, Int.reduceLE, Int.reduceLT, Nat.reduceAdd, Nat.reduceLeDiff, Int.reduceToNat, Nat.reduceMul, Nat.reduceBEq, okPart, Value.cells, cut, okCell, cld2, underlying3, underlying4, underlying9, underlying5, underlying32, underlying0, be4, bn4, underlying129, h3, fa131x1, ag129, i1, i2]
        exact h
      · rw [if_pos (by omega)] at h
        obtain ⟨j, rfl⟩ : ∃ j : Nat, i = ((j + 1 : Nat) : Int) := ⟨(i - 1).toNat, by omega⟩
        have w1 : IntKind.i64.wrap (((j + 1 : Nat) : Int) - 1) = (j : Int) := by rw [wrap_i64 (by omega)]; omega
        have hj : (0 : Int) ≤ (j : Int) ∧ (j : Int) < (T.length : Int) := by omega
        have hx : (T.map Value.string)[j]? = some (.string (T.getD j ⟨#[]⟩)) := by
          have : j < T.length := by omega
          simp [this]
        simp -implicitDefEqProofs only [↓Zd, (Zp), if_true, if_false, ne_eq, implies_true, forall_const, Nat.reduceEqDiff, reduceIte, reduceCtorEq, Int.reduceEq, Int.reduceNeg, Int.reduceLE, Int.reduceLT, Nat.reduceAdd, Nat.reduceLeDiff, Int.reduceToNat, Nat.reduceMul, Nat.reduceBEq, okPart, Value.cells, cut, okCell, cld2, underlying3, underlying4, underlying9, underlying5, underlying32, underlying0, be4, bn4, underlying129, h3, h9, fa131x1, ag129, ag9, sz9, i1, i2, w1, hj, hx, Nat.mul_one, Nat.zero_add]
        simpa using h
end
end Go.Proofs.Try
