/- The walks of the library's builder of strings. A lemma file: no statement of its own. -/
import Derived.Test.YtnkichmojbanlaaGreatqFwF
import Derived.Test.YtnkichmojbanlaaGreatqBytes
import Derived.Test.YtnkichmojbanlaaGreatqFacts
import Derived.Test.YtnkichmojbanlaaGreatqTypes
set_option linter.unusedSimpArgs false
set_option linter.unusedVariables false
set_option linter.unusedSectionVars false
namespace Go.Proofs.Tryz
open Go.Cs
open Go.RowKit (Below)
set_option maxRecDepth 100000
attribute [local irreducible] CCalls WLoop WScope
theorem upB : upOk Tryz.prog 143 143 = true := by kernel_rfl
theorem upU8 : upOk Tryz.prog 5 5 = true := by kernel_rfl
theorem anyB : ((Tryz.prog.info? 143).any fun i => i.size != 0) = true := by kernel_rfl
theorem extNoEscape (v : Value) : cextern Tryz.prog 149 #[v] = some v := by kernel_rfl
section
variable {M : Type} [Mem M] {w0 : World} {s : St M} {R : Value → St M → Prop}
theorem copyCheck_spec {p : Nat} {ad sl : Value} (hp : s.at' p = some (.cells [ad, sl] 143 true)) (had : ad = .pointer none ∨ ad = .pointer (some ⟨p, 0, none⟩))
    (h : ∀ s', s'.next = s.next → (∀ b, s'.at' b = if b = p then some (.cells [.pointer (some ⟨p, 0, none⟩), sl] 143 true) else s.at' b) → R (.tuple #[]) s') : CCalls Tryz.prog w0 124 #[.pointer (some ⟨p, 0, none⟩)] s R := by
  refine wfun2 hmix ok124 (l := [.pointer (some ⟨p, 0, none⟩)]) func124 rfl ntmps124 results124 (by simp) ?_
  rcases had with rfl | rfl
  · simp -implicitDefEqProofs only [↓Zd, (Zp), if_true, if_false, Nat.reduceEqDiff, reduceCtorEq, Nat.reduceAdd, Nat.reduceLeDiff, okPart, Value.cells, okCell, cld2, underlying140, underlying231, fa143x0, hp, ag140, sz140, nt140, ↓o_cp, cup_to anyB, cup_of upB, ce143, no149, extNoEscape, Nat.zero_mod, Nat.zero_lt_succ, Nat.le_refl]
    refine h _ rfl fun b => ?_
    rw [St.at_put]
    try rfl
  · simp -implicitDefEqProofs only [↓Zd, (Zp), if_true, if_false, ne_eq, Nat.reduceEqDiff, reduceCtorEq, cld2, underlying140, underlying4, fa143x0, hp, ag140, nf140, cpp_ne sz143]
    refine h _ rfl fun b => ?_
    split
    · rename_i e; rw [e]; exact hp
    · rfl
structure BAt (s0 s : St M) (p : Nat) (l : List UInt8) : Prop where
  le : s0.le s
  lo : s0.next ≤ p
  hi : p < s.next
  bl : ∃ ad sl, s.at' p = some (.cells [ad, sl] 143 true) ∧ (ad = .pointer none ∨ ad = .pointer (some ⟨p, 0, none⟩)) ∧
    ((l = [] ∧ sl = .slice none 0 0) ∨ (l ≠ [] ∧ ∃ b, sl = .slice (some ⟨b, 0, none⟩) l.length UNK ∧ s.at' b = some (.cells (l.map toV) 5 true) ∧ b ≠ p ∧ s0.next ≤ b ∧ b < s.next))
theorem BAt.more {s0 s s1 s3 : St M} {p q : Nat} {l new : List UInt8} {sl : Value} (hlo : s0.next ≤ p) (hle : s0.le s3) (hp3 : s3.at' p = some (.cells [.pointer (some ⟨p, 0, none⟩), sl] 143 true)) (hne : new ≠ []) (hq : s3.at' q = some (.cells ((l ++ new).map toV) 5 true)) (hqp : q ≠ p) (hq0 : s0.next ≤ q) (hq1 : q < s3.next) (hp1 : p < s3.next) :
    BAt s0 (s3.put p (.cells [.pointer (some ⟨p, 0, none⟩), .slice (some ⟨q, 0, none⟩) (l ++ new).length UNK] 143 true)) p (l ++ new) where
  le := St.le_put hle hlo
  lo := hlo
  hi := hp1
  bl := ⟨_, _, by rw [St.at_put, if_pos rfl], .inr rfl, .inr ⟨by simp [hne], q, rfl, by rw [St.at_put, if_neg hqp]; exact hq, hqp, hq0, hq1⟩⟩
set_option maxHeartbeats 1000000 in
theorem writeByte_spec {s0 : St M} {p : Nat} {l : List UInt8} {c : UInt8} (hB : BAt s0 s p l) (hlen : l.length ≤ 1099511627776) (h : ∀ s', BAt s0 s' p (l ++ [c]) → R .nilIface s') : CCalls Tryz.prog w0 78 #[.pointer (some ⟨p, 0, none⟩), .int .u8 c.toNat] s R := by
  refine wfun2 hmix ok78 (l := [.pointer (some ⟨p, 0, none⟩), .int .u8 c.toNat]) func78 rfl ntmps78 results78 (by simp) ?_
  obtain ⟨hle, hlo, hhi, ad, sl, hp, had, hsl⟩ := hB
  simp -implicitDefEqProofs only [↓Zd, (Zp), if_true, if_false, reduceCtorEq, co124]
  refine copyCheck_spec hp had fun s1 hn1 hat1 => ?_
  have hp1 : s1.at' p = some (.cells [.pointer (some ⟨p, 0, none⟩), sl] 143 true) := by rw [hat1, if_pos rfl]
  have hsl1 : SlC 5 1 (s1.new (.cells [.int .u8 c.toNat] 5 true)) sl (l.map toV) l.length := by
    rcases hsl with ⟨h1, h2⟩ | ⟨h1, b, h2, h3, h4, h5, h6⟩
    · exact .inl ⟨by simp [h1], by simp [h1], h2⟩
    · exact .inr ⟨b, _, h2, .inl rfl, by rw [St.at_new, if_neg (by omega), hat1, if_neg h4]; exact h3, by simp⟩
  obtain ⟨s3, hcapp, hn3, hq3, hat3⟩ := app_bytes (s := s1.new (.cells [.int .u8 c.toNat] 5 true)) (sl := sl) (v := .slice (some ⟨s1.next, 0, none⟩) 1 1) (l := l) (new := [c]) (t2 := 141) (.inl underlying141) (by simp) (by simp; omega) hsl1
    (by simp only [more_at, St.at_new, if_true, more2]; rw [cut_all (by simp)]; rfl)
  simp only [St.next_new] at hn3 hq3 hat3 hcapp
  have hp3 : s3.at' p = some (.cells [.pointer (some ⟨p, 0, none⟩), sl] 143 true) := by
    rw [hat3 p (by omega) (fun q n c' e => by
      rcases hsl with ⟨_, h1⟩ | ⟨_, b, h2, _, h4, _⟩
      · rw [h1] at e; cases e
      · rw [h2] at e; cases e; exact fun e => h4 e.symm), St.at_new, if_neg (by omega)]
    exact hp1
  have hle3 : s0.le s3 := by
    refine ⟨by have := hle.1; omega, fun b hb => ?_⟩
    rw [hat3 b (by have := hle.1; omega) (fun q n c' e => by
      rcases hsl with ⟨_, h1⟩ | ⟨_, b', h2, _, _, h5, _⟩
      · rw [h1] at e; cases e
      · rw [h2] at e; cases e; show b ≠ b'; omega), St.at_new, if_neg (by have := hle.1; omega), hat1, if_neg (by omega)]
    exact hle.2 b hb
  simp -implicitDefEqProofs only [↓Zd, (Zp), if_true, if_false, Nat.reduceEqDiff, reduceCtorEq, Nat.reduceAdd, Nat.reduceLeDiff, okPart, Value.cells, okCell, cld2, underlying0, underlying141, fa143x1, hp1, ag141, sz141, rowB, hcapp, hp3]
  have := BAt.more (s := s) (s1 := s1) hlo hle3 hp3 (new := [c]) (by simp) hq3 (by have := hhi; omega) (by have := hle.1; omega) (by omega) (by omega)
  exact h _ this
set_option maxHeartbeats 1000000 in
theorem writeString_spec {s0 : St M} {p : Nat} {l : List UInt8} {x : ByteArray} (hB : BAt s0 s p l) (hlen : l.length ≤ 1099511627776) (hx : x.data.toList ≠ []) (hlen2 : x.size ≤ 1099511627776) (h : ∀ s', BAt s0 s' p (l ++ x.data.toList) → R (.tuple #[.int .i64 x.size, .nilIface]) s') : CCalls Tryz.prog w0 71 #[.pointer (some ⟨p, 0, none⟩), .string x] s R := by
  refine wfun2 hmix ok71 (l := [.pointer (some ⟨p, 0, none⟩), .string x]) func71 rfl ntmps71 results71 (by simp) ?_
  obtain ⟨hle, hlo, hhi, ad, sl, hp, had, hsl⟩ := hB
  simp -implicitDefEqProofs only [↓Zd, (Zp), if_true, if_false, Nat.reduceEqDiff, reduceCtorEq, co124]
  refine copyCheck_spec hp had fun s1 hn1 hat1 => ?_
  have hp1 : s1.at' p = some (.cells [.pointer (some ⟨p, 0, none⟩), sl] 143 true) := by rw [hat1, if_pos rfl]
  have hsl1 : SlC 5 1 s1 sl (l.map toV) l.length := by
    rcases hsl with ⟨h1, h2⟩ | ⟨h1, b, h2, h3, h4, h5, h6⟩
    · exact .inl ⟨by simp [h1], by simp [h1], h2⟩
    · exact .inr ⟨b, _, h2, .inl rfl, by rw [hat1, if_neg h4]; exact h3, by simp⟩
  obtain ⟨s3, hcapp, hn3, hq3, hat3⟩ := app_bytes (s := s1) (sl := sl) (v := .string x) (l := l) (new := x.data.toList) (t2 := 9) (e2 := 0) (.inr underlying9) hx (by simp; omega) hsl1 (by simp [cmore]; intro a _; rfl)
  have hp3 : s3.at' p = some (.cells [.pointer (some ⟨p, 0, none⟩), sl] 143 true) := by
    rw [hat3 p (by omega) (fun q n c' e => by
      rcases hsl with ⟨_, h1⟩ | ⟨_, b, h2, _, h4, _⟩
      · rw [h1] at e; cases e
      · rw [h2] at e; cases e; exact fun e => h4 e.symm)]
    exact hp1
  have hle3 : s0.le s3 := by
    refine ⟨by have := hle.1; omega, fun b hb => ?_⟩
    rw [hat3 b (by have := hle.1; omega) (fun q n c' e => by
      rcases hsl with ⟨_, h1⟩ | ⟨_, b', h2, _, _, h5, _⟩
      · rw [h1] at e; cases e
      · rw [h2] at e; cases e; show b ≠ b'; omega), hat1, if_neg (by omega)]
    exact hle.2 b hb
  simp -implicitDefEqProofs only [↓Zd, (Zp), if_true, if_false, Nat.reduceEqDiff, reduceCtorEq, Nat.reduceAdd, Nat.reduceLeDiff, okPart, Value.cells, okCell, cld2, underlying9, underlying0, underlying141, fa143x1, hp1, ag141, sz141, hcapp, hp3]
  have := BAt.more (s := s) (s1 := s1) hlo hle3 hp3 (new := x.data.toList) hx hq3 (by have := hhi; omega) (by have := hle.1; omega) (by omega) (by omega)
  exact h _ this
set_option maxHeartbeats 1000000 in
theorem string_spec {s0 : St M} {p : Nat} {l : List UInt8} (hB : BAt s0 s p l) (hlen : l.length ≤ 1099511627776) (h : ∀ s', s0.le s' → R (.string ⟨l.toArray⟩) s') : CCalls Tryz.prog w0 79 #[.pointer (some ⟨p, 0, none⟩)] s R := by
  refine wfun2 hmix ok79 (l := [.pointer (some ⟨p, 0, none⟩)]) func79 rfl ntmps79 results79 (by simp) ?_
  obtain ⟨hle, hlo, hhi, ad, sl, hp, had, hsl⟩ := hB
  rcases hsl with ⟨rfl, rfl⟩ | ⟨hl, b, rfl, hb, hbp, hb0, hb1⟩
  · simp -implicitDefEqProofs only [↓Zd, (Zp), if_true, if_false, Nat.reduceEqDiff, reduceCtorEq, cld2, underlying141, underlying216, fa143x1, hp, ag141, ord79]
    exact h _ hle
  · have hn : l.length ≠ 0 := by simpa using hl
    have hus := cus_hit (P := Tryz.prog) (s := s) (u := 5) (e := 5) (a := ⟨b, 0, none⟩) (k := .i64) (n := l.length) (vs := l.map toV) (l := l) hn (by omega) upU8 ce5 (cut_all (by simp))
    have hbp' : ¬ p = b := fun e => hbp e.symm
    simp -implicitDefEqProofs only [↓Zd, (Zp), if_true, if_false, ne_eq, implies_true, Nat.reduceEqDiff, reduceCtorEq, cld2, underlying141, underlying216, fa143x1, hp, hb, hn, hus, ag141, ord79, UNK]
    exact h _ (St.le_put hle hb0)
end
end Go.Proofs.Tryz
