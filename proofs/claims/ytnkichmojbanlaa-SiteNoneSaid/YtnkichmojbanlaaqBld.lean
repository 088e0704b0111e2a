/- The walks of the library's builder of strings. A lemma file: no statement of its own. -/
import Derived.Test.YtnkichmojbanlaaqFwF
import Derived.Test.YtnkichmojbanlaaqBytes
import Derived.Test.YtnkichmojbanlaaqFacts
import Derived.Test.YtnkichmojbanlaaqTypes
set_option linter.unusedSimpArgs false
set_option linter.unusedVariables false
set_option linter.unusedSectionVars false
namespace Go.Proofs.Try
open Go.Cs
open Go.RowKit (Below)
set_option maxRecDepth 100000
attribute [local irreducible] CCalls WLoop WScope
theorem upB : upOk Try.prog 112 112 = true := by kernel_rfl
theorem upU8 : upOk Try.prog 5 5 = true := by kernel_rfl
theorem anyB : ((Try.prog.info? 112).any fun i => i.size != 0) = true := by kernel_rfl
theorem extNoEscape (v : Value) : cextern Try.prog 90 #[v] = some v := by kernel_rfl
section
variable {M : Type} [Mem M] {w0 : World} {s : St M} {R : Value → St M → Prop}
theorem copyCheck_spec {p : Nat} {ad sl : Value} (hp : s.at' p = some (.cells [ad, sl] 112 true)) (had : ad = .pointer none ∨ ad = .pointer (some ⟨p, 0, none⟩))
    (h : ∀ s', s'.next = s.next → (∀ b, s'.at' b = if b = p then some (.cells [.pointer (some ⟨p, 0, none⟩), sl] 112 true) else s.at' b) → R (.tuple #[]) s') : CCalls Try.prog w0 77 #[.pointer (some ⟨p, 0, none⟩)] s R := by
  refine wfun2 hmix ok77 (l := [.pointer (some ⟨p, 0, none⟩)]) func77 rfl ntmps77 results77 (by simp) ?_
  rcases had with rfl | rfl
  · simp -implicitDefEqProofs only [↓Zd, (Zp), if_true, if_false, ne_eq, implies_true, forall_const, Nat.reduceEqDiff, reduceIte, reduceCtorEq, Int.reduceEq, Int.reduceNeg, Int.reduceLE, Int.reduceLT, Nat.reduceAdd, Nat.reduceLeDiff, Int.reduceToNat, Nat.reduceMul, Nat.reduceBEq, okPart, Value.cells, cut, okCell, cld2, underlying109, underlying4, underlying169, fa112x0, hp, ag109, sz109, nt109, ↓o_cp, cup_to anyB, cup_of upB, ce112, no90, extNoEscape, Nat.zero_mod, Nat.zero_add, Nat.zero_lt_succ, Nat.le_refl]
    refine h _ rfl fun b => ?_
    rw [St.at_put]
    try rfl
  · simp -implicitDefEqProofs only [↓Zd, (Zp), if_true, if_false, ne_eq, implies_true, forall_const, Nat.reduceEqDiff, reduceIte, reduceCtorEq, Int.reduceEq, Int.reduceNeg, Int.reduceLE, Int.reduceLT, Nat.reduceAdd, Nat.reduceLeDiff, Int.reduceToNat, Nat.reduceMul, Nat.reduceBEq, okPart, Value.cells, cut, okCell, cld2, underlying109, underlying4, underlying169, fa112x0, hp, ag109, sz109, nf109, cpp_ne sz112]
    refine h _ rfl fun b => ?_
    split
    · rename_i e; rw [e]; exact hp
    · rfl
structure BAt (s0 s : St M) (p : Nat) (l : List UInt8) : Prop where
  le : s0.le s
  lo : s0.next ≤ p
  hi : p < s.next
  bl : ∃ ad sl, s.at' p = some (.cells [ad, sl] 112 true) ∧ (ad = .pointer none ∨ ad = .pointer (some ⟨p, 0, none⟩)) ∧
    ((l = [] ∧ sl = .slice none 0 0) ∨ (l ≠ [] ∧ ∃ b, sl = .slice (some ⟨b, 0, none⟩) l.length UNK ∧ s.at' b = some (.cells (l.map toV) 5 true) ∧ b ≠ p ∧ s0.next ≤ b ∧ b < s.next))
theorem BAt.more {s0 s s1 s3 : St M} {p q : Nat} {l new : List UInt8} {sl : Value} (hlo : s0.next ≤ p) (hle : s0.le s3) (hp3 : s3.at' p = some (.cells [.pointer (some ⟨p, 0, none⟩), sl] 112 true)) (hne : new ≠ []) (hq : s3.at' q = some (.cells ((l ++ new).map toV) 5 true)) (hqp : q ≠ p) (hq0 : s0.next ≤ q) (hq1 : q < s3.next) (hp1 : p < s3.next) :
    BAt s0 (s3.put p (.cells [.pointer (some ⟨p, 0, none⟩), .slice (some ⟨q, 0, none⟩) (l ++ new).length UNK] 112 true)) p (l ++ new) where
  le := St.le_put hle hlo
  lo := hlo
  hi := hp1
  bl := ⟨_, _, by rw [St.at_put, if_pos rfl], .inr rfl, .inr ⟨by simp [hne], q, rfl, by rw [St.at_put, if_neg hqp]; exact hq, hqp, hq0, hq1⟩⟩
set_option maxHeartbeats 1000000 in
theorem writeByte_spec {s0 : St M} {p : Nat} {l : List UInt8} {c : UInt8} (hB : BAt s0 s p l) (hlen : l.length ≤ 1099511627776) (h : ∀ s', BAt s0 s' p (l ++ [c]) → R .nilIface s') : CCalls Try.prog w0 53 #[.pointer (some ⟨p, 0, none⟩), .int .u8 c.toNat] s R := by
  refine wfun2 hmix ok53 (l := [.pointer (some ⟨p, 0, none⟩), .int .u8 c.toNat]) func53 rfl ntmps53 results53 (by simp) ?_
  obtain ⟨hle, hlo, hhi, ad, sl, hp, had, hsl⟩ := hB
  simp -implicitDefEqProofs only [↓Zd, (Zp), if_true, if_false, ne_eq, implies_true, forall_const, Nat.reduceEqDiff, reduceIte, reduceCtorEq, Int.reduceEq, Int.reduceNeg, Int.reduceLE, Int.reduceLT, Nat.reduceAdd, Nat.reduceLeDiff, Int.reduceToNat, Nat.reduceMul, Nat.reduceBEq, okPart, Value.cells, cut, okCell, cld2, underlying0, co77]
  refine copyCheck_spec hp had fun s1 hn1 hat1 => ?_
  have hp1 : s1.at' p = some (.cells [.pointer (some ⟨p, 0, none⟩), sl] 112 true) := by rw [hat1, if_pos rfl]
  have hsl1 : SlC 5 1 (s1.new (.cells [.int .u8 c.toNat] 5 true)) sl (l.map toV) l.length := by
    rcases hsl with ⟨h1, h2⟩ | ⟨h1, b, h2, h3, h4, h5, h6⟩
    · exact .inl ⟨by simp [h1], by simp [h1], h2⟩
    · exact .inr ⟨b, _, h2, .inl rfl, by rw [St.at_new, if_neg (by omega), hat1, if_neg h4]; exact h3, by simp⟩
  obtain ⟨s3, hcapp, hn3, hq3, hat3⟩ := app_bytes (s := s1.new (.cells [.int .u8 c.toNat] 5 true)) (sl := sl) (v := .slice (some ⟨s1.next, 0, none⟩) 1 1) (l := l) (new := [c]) (t2 := 110) (.inl underlying110) (by simp) (by simp; omega) hsl1
    (by simp only [more_at, St.at_new, if_true, more2]; rw [cut_all (by simp)]; rfl)
  simp only [St.next_new] at hn3 hq3 hat3 hcapp
  have hp3 : s3.at' p = some (.cells [.pointer (some ⟨p, 0, none⟩), sl] 112 true) := by
    rw [hat3 p (by omega) (fun q n c' e => by
      rcases hsl with ⟨_, h1⟩ | ⟨_, b, h2, _, h4, _⟩
      · rw [h1] at e; cases e
      · rw [h2] at e; cases e; exact fun e => h4 e.symm), St.at_new, if_neg (by omega)]
    exact hp1
  have hle3 : s0.le s3 := by
    refine ⟨by have := hle.1; omega, fun b hb => ?_⟩
    rw [hat3 b (by have := hle.1; omega) (fun q n c' e => by
      rcases hsl with ⟨_, h1⟩ | ⟨_, b', h2, _, _, h5, _⟩
      · rw [h1] at e; cases e
      · rw [h2] at e; cases e; show b ≠ b'; omega), St.at_new, if_neg (by have := hle.1; omega), hat1, if_neg (by omega)]
    exact hle.2 b hb
  simp -implicitDefEqProofs only [↓Zd, (Zp), if_true, if_false, ne_eq, implies_true, forall_const, Nat.reduceEqDiff, reduceIte, reduceCtorEq, Int.reduceEq, Int.reduceNeg, Int.reduceLE, Int.reduceLT, Nat.reduceAdd, Nat.reduceLeDiff, Int.reduceToNat, Nat.reduceMul, Nat.reduceBEq, okPart, Value.cells, cut, okCell, cld2, underlying0, underlying110, fa112x1, hp1, ag110, sz110, rowB, hcapp, hp3, Nat.zero_add]
  have := BAt.more (s := s) (s1 := s1) hlo hle3 hp3 (new := [c]) (by simp) hq3 (by have := hhi; omega) (by have := hle.1; omega) (by omega) (by omega)
  exact h _ this
set_option maxHeartbeats 1000000 in
theorem writeString_spec {s0 : St M} {p : Nat} {l : List UInt8} {x : ByteArray} (hB : BAt s0 s p l) (hlen : l.length ≤ 1099511627776) (hx : x.data.toList ≠ []) (hlen2 : x.size ≤ 1099511627776) (h : ∀ s', BAt s0 s' p (l ++ x.data.toList) → R (.tuple #[.int .i64 x.size, .nilIface]) s') : CCalls Try.prog w0 46 #[.pointer (some ⟨p, 0, none⟩), .string x] s R := by
  refine wfun2 hmix ok46 (l := [.pointer (some ⟨p, 0, none⟩), .string x]) func46 rfl ntmps46 results46 (by simp) ?_
  obtain ⟨hle, hlo, hhi, ad, sl, hp, had, hsl⟩ := hB
  simp -implicitDefEqProofs only [↓Zd, (Zp), if_true, if_false, ne_eq, implies_true, forall_const, Nat.reduceEqDiff, reduceIte, reduceCtorEq, Int.reduceEq, Int.reduceNeg, Int.reduceLE, Int.reduceLT, Nat.reduceAdd, Nat.reduceLeDiff, Int.reduceToNat, Nat.reduceMul, Nat.reduceBEq, okPart, Value.cells, cut, okCell, cld2, underlying0, co77]
  refine copyCheck_spec hp had fun s1 hn1 hat1 => ?_
  have hp1 : s1.at' p = some (.cells [.pointer (some ⟨p, 0, none⟩), sl] 112 true) := by rw [hat1, if_pos rfl]
  have hsl1 : SlC 5 1 s1 sl (l.map toV) l.length := by
    rcases hsl with ⟨h1, h2⟩ | ⟨h1, b, h2, h3, h4, h5, h6⟩
    · exact .inl ⟨by simp [h1], by simp [h1], h2⟩
    · exact .inr ⟨b, _, h2, .inl rfl, by rw [hat1, if_neg h4]; exact h3, by simp⟩
  obtain ⟨s3, hcapp, hn3, hq3, hat3⟩ := app_bytes (s := s1) (sl := sl) (v := .string x) (l := l) (new := x.data.toList) (t2 := 9) (e2 := 0) (.inr underlying9) hx (by simp; omega) hsl1 (by simp [cmore]; intro a _; rfl)
  have hp3 : s3.at' p = some (.cells [.pointer (some ⟨p, 0, none⟩), sl] 112 true) := by
    rw [hat3 p (by omega) (fun q n c' e => by
      rcases hsl with ⟨_, h1⟩ | ⟨_, b, h2, _, h4, _⟩
      · rw [h1] at e; cases e
      · rw [h2] at e; cases e; exact fun e => h4 e.symm)]
    exact hp1
  have hle3 : s0.le s3 := by
    refine ⟨by have := hle.1; omega, fun b hb => ?_⟩
    rw [hat3 b (by have := hle.1; omega) (fun q n c' e => by
      rcases hsl with ⟨_, h1⟩ | ⟨_, b', h2, _, _, h5, _⟩
      · rw [h1] at e; cases e
      · rw [h2] at e; cases e; show b ≠ b'; omega), hat1, if_neg (by omega)]
    exact hle.2 b hb
  simp -implicitDefEqProofs only [↓Zd, (Zp), if_true, if_false, ne_eq, implies_true, forall_const, Nat.reduceEqDiff, reduceIte, reduceCtorEq, Int.reduceEq, Int.reduceNeg, Int.reduceLE, Int.reduceLT, Nat.reduceAdd, Nat.reduceLeDiff, Int.reduceToNat, Nat.reduceMul, Nat.reduceBEq, okPart, Value.cells, cut, okCell, cld2, underlying3, underlying4, underlying9, underlying5, underlying32, underlying0, be4, bn4, underlying110, fa112x1, hp1, ag110, sz110, hcapp, hp3, Nat.zero_add]
  have := BAt.more (s := s) (s1 := s1) hlo hle3 hp3 (new := x.data.toList) hx hq3 (by have := hhi; omega) (by have := hle.1; omega) (by omega) (by omega)
  exact h _ this
set_option maxHeartbeats 1000000 in
theorem string_spec {s0 : St M} {p : Nat} {l : List UInt8} (hB : BAt s0 s p l) (hlen : l.length ≤ 1099511627776) (h : ∀ s', s0.le s' → R (.string ⟨l.toArray⟩) s') : CCalls Try.prog w0 54 #[.pointer (some ⟨p, 0, none⟩)] s R := by
  refine wfun2 hmix ok54 (l := [.pointer (some ⟨p, 0, none⟩)]) func54 rfl ntmps54 results54 (by simp) ?_
  obtain ⟨hle, hlo, hhi, ad, sl, hp, had, hsl⟩ := hB
  rcases hsl with ⟨rfl, rfl⟩ | ⟨hl, b, rfl, hb, hbp, hb0, hb1⟩
  · simp -implicitDefEqProofs only [↓Zd, (Zp), if_true, if_false, ne_eq, implies_true, forall_const, Nat.reduceEqDiff, reduceIte, reduceCtorEq, Int.reduceEq, Int.reduceNeg, Int.reduceLE, Int.reduceLT, Nat.reduceAdd, Nat.reduceLeDiff, Int.reduceToNat, Nat.reduceMul, Nat.reduceBEq, okPart, Value.cells, cut, okCell, cld2, underlying3, underlying4, underlying9, underlying5, underlying32, underlying0, be4, bn4, underlying110, underlying158, fa112x1, hp, ag110, ord54, ↓f_len, len_slice, lenM_slice]
    exact h _ hle
  · have hn : l.length ≠ 0 := by simpa using hl
    have hus := cus_hit (P := Try.prog) (s := s) (u := 5) (e := 5) (a := ⟨b, 0, none⟩) (k := .i64) (n := l.length) (vs := l.map toV) (l := l) hn (by omega) upU8 ce5 (cut_all (by simp))
    have hbp' : ¬ p = b := fun e => hbp e.symm
    simp -implicitDefEqProofs only [↓Zd, (Zp), if_true, if_false, ne_eq, implies_true, forall_const, Nat.reduceEqDiff, reduceIte, reduceCtorEq, Int.reduceEq, Int.reduceNeg, Int.reduceLE, Int.reduceLT, Nat.reduceAdd, Nat.reduceLeDiff, Int.reduceToNat, Nat.reduceMul, Nat.reduceBEq, okPart, Value.cells, cut, okCell, cld2, underlying3, underlying4, underlying9, underlying5, underlying32, underlying0, be4, bn4, underlying110, underlying158, fa112x1, hp, hb, hn, hus, hbp', ag110, ord54, ↓f_len, len_slice, lenM_slice, UNK, imp_self]
    exact h _ (St.le_put hle hb0)
end
end Go.Proofs.Try
