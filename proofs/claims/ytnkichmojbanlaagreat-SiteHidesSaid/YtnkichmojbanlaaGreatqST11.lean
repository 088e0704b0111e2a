/- Sites: the walks of Flush, Mega and New. A lemma file: no statement of its own. -/
import Derived.Test.YtnkichmojbanlaaGreatqFwF
import Derived.Test.YtnkichmojbanlaaGreatqST10
set_option linter.unusedSimpArgs false
set_option linter.unusedVariables false
set_option linter.unusedSectionVars false
namespace Go.Cs
section
variable {M : Type} [Mem M] {P : Program} {w0 : World} {s : St M} {ev : Operand → Value} {d : Option Tmp} {ty t : TypeId} {pos : String} {af : Array Edge} {g : Option (Nat × Bool)} {x y : Operand} {K : Value → St M → Prop} {F : Value → St M → Option Value → Prop}
def cmks (P : Program) (t : TypeId) (l c : Value) : Option (Blk × (Nat → Value)) := match P.underlying t, l, c with
    | some (.slice e), .int _ l, .int _ c => match P.info? e with
      | some ie => if 0 ≤ l ∧ l ≤ c ∧ c ≤ 4294967296 ∧ c * ie.bytes ≤ 281474976710656 then
          match zerosOf P e (c.toNat * ie.size) with
          | some z => some (.cells z e true, fun b => .slice (some ⟨b, 0, none⟩) l.toNat c.toNat)
          | none => none
        else none
      | none => none
    | _, _, _ => none
theorem o_mks : wop P w0 ⟨d, .makeSlice t x y, ty, pos, af, g⟩ ev s K = wmk (cmks P t (ev x) (ev y)) s K := rfl
theorem f_mks : wfop P ⟨d, .makeSlice t x y, ty, pos, af, g⟩ ev s F = wmk (cmks P t (ev x) (ev y)) s fun v s => F v s none := rfl
theorem f_min {args : Array Operand} {ats : Array TypeId} : wfop P ⟨d, .call ⟨.builtin .min, args, ats⟩, ty, pos, af, g⟩ ev s F = must (cbuiltin P .min ats ty (args.map ev)) fun v => F v s none := rfl
theorem f_max {args : Array Operand} {ats : Array TypeId} : wfop P ⟨d, .call ⟨.builtin .max, args, ats⟩, ty, pos, af, g⟩ ev s F = must (cbuiltin P .max ats ty (args.map ev)) fun v => F v s none := rfl
end
end Go.Cs
namespace Go.Proofs.Tryz
open Go.Cs
open Go.RowKit (Below)
set_option maxRecDepth 100000
attribute [local irreducible] CCalls WLoop WScope CRound WRange
theorem bOneS (m : Bool) : cbuild Tryz.prog 96 #[(2, .bool m)] = some (.agg #[.bool false, .bool false, .bool m, .string ⟨#[]⟩, .slice none 0 0]) := by cases m <;> kernel_rfl
theorem rows_set50 {c : Nat → List Value} {n i : Nat} {v0 v1 v2 v3 v4 : Value} (hc : ∀ i, (c i).length = 5) (hi : i < n) :
    ((((((rows c n).set (i * 5) v0).set (i * 5 + 1) v1).set (i * 5 + 2) v2).set (i * 5 + 3) v3).set (i * 5 + 4) v4) = rows (fun m => if m = i then [v0, v1, v2, v3, v4] else c m) n := by
  have := rows_set5 (v0 := v0) (v1 := v1) (v2 := v2) (v3 := v3) (v4 := v4) hc [] hi
  simpa using this
section
variable {M : Type} [Mem M] {w0 : World} {s : St M} {R : Value → St M → Prop} {lo t N : Nat} {T : Tab} {O : Nat → Prop} {al : Value} {rb cp : Nat → Nat} {sl : Nat → Nat → Value}
def flushK (T : Tab) (i k : Nat) (m : Bool) : Tab := { T with st := fun a b => if a = i ∧ b < k then { s0 with mega := m || (T.st a b).mega } else T.st a b }
theorem flushK_zero (T : Tab) (i : Nat) (m : Bool) : flushK T i 0 m = T := by
  obtain ⟨fs, n, st, hits, misses⟩ := T
  unfold flushK
  congr 1
  funext a b
  rw [if_neg (fun h => Nat.not_lt_zero _ h.2)]
theorem flushK_succ (T : Tab) (i k : Nat) (m : Bool) : putT (flushK T i k m) (i : Int) (k : Int) { s0 with mega := m || (T.st i k).mega } = flushK T i (k + 1) m := by
  unfold flushK putT
  congr 1
  funext a b
  simp only [Int.toNat_natCast]
  by_cases h1 : a = i ∧ b = k
  · rw [if_pos h1, if_pos ⟨h1.1, by omega⟩, h1.1, h1.2]
  · rw [if_neg h1]
    by_cases h2 : a = i ∧ b < k
    · rw [if_pos h2, if_pos ⟨h2.1, by omega⟩]
    · rw [if_neg h2, if_neg (fun h => by
        rcases Nat.lt_succ_iff_lt_or_eq.1 h.2 with h3 | h3
        · exact h2 ⟨h.1, h3⟩
        · exact h1 ⟨h.1, h3⟩)]
theorem flushK_all (T : Tab) (i : Nat) (m : Bool) (h : i < T.fs) : flushK T i (T.n i) m = flushT T (i : Int) m := by
  unfold flushK flushT
  rw [if_pos ⟨by omega, by omega⟩]
  congr 1
  funext a b
  rw [Int.toNat_natCast]
  by_cases h1 : a = i
  · subst h1; rfl
  · rw [if_neg (fun h => h1 h.1), if_neg (fun h => h1 h.1)]
set_option maxHeartbeats 8000000 in
theorem sflush_spec (hS : STab PY lo s t T N O) (hfs : 0 < T.fs) {f : Int} (hR : ∀ s', STab PY lo s' t (flushT T f false) N O → Upd s s' O O → R (.tuple #[]) s') :
    CCalls Tryz.prog w0 24 #[.pointer (some ⟨t, 0, none⟩), .int .i64 f] s R := by
  refine wfun2 hmix ok24 (l := [.pointer (some ⟨t, 0, none⟩), .int .i64 f]) func24 rfl ntmps24 results24 (by simp) ?_
  obtain ⟨al, rb, cp, sl, h⟩ := hS
  have hb : s.at' t = some (.cells [al, .int .i64 (T.hits : Int), .int .i64 (T.misses : Int)] 84 true) := h.bl
  simp -implicitDefEqProofs only [↓Zd, (Zp), if_true, co51]
  refine sdead_spec h hfs ?_
  rcases h.all with ⟨h0, _, _⟩ | ⟨b0, junk, rfl, ha, _⟩
  · omega
  have ha : s.at' b0 = some (.cells (rows (fun i => [.slice (some ⟨rb i, 0, none⟩) (T.n i) (cp i)]) T.fs ++ junk) 85 true) := ha
  by_cases f1 : f < 0
  · have e : flushT T f false = T := by unfold flushT; rw [if_neg (fun hc => by omega)]
    rw [e] at hR
    simp -implicitDefEqProofs only [↓Zd, (Zp), if_true, if_false, Nat.reduceEqDiff, (HEx), f1]
    exact hR _ ⟨_, _, _, _, h⟩ (.of_le (St.le_refl _))
  by_cases f2 : (T.fs : Int) ≤ f
  · have e : flushT T f false = T := by unfold flushT; rw [if_neg (fun hc => by omega)]
    rw [e] at hR
    simp -implicitDefEqProofs only [↓Zd, (Zp), if_true, if_false, Nat.reduceEqDiff, reduceCtorEq, cld2, (HEx), (STx), hb, f1, f2]
    exact hR _ ⟨_, _, _, _, h⟩ (.of_le (St.le_refl _))
  obtain ⟨i, rfl⟩ : ∃ i : Nat, f = (i : Int) := ⟨f.toNat, by omega⟩
  have hi : i < T.fs := by omega
  have hii : (0 : Int) ≤ (i : Int) ∧ (i : Int) < (T.fs : Int) := by omega
  have hg := rows_get (c := fun i => [.slice (some ⟨rb i, 0, none⟩) (T.n i) (cp i)]) (k := 1) (fun _ => rfl) (j := 0) junk hi (by omega)
  simp only [Nat.mul_one, Nat.add_zero, List.getElem?_cons_zero] at hg
  have hni := h.small.2 i hi
  have hOn : ∀ c, O c → c < s.next := fun c hc => (h.own c hc).2
  simp -implicitDefEqProofs only [↓Zd, (Zp), if_true, if_false, Nat.reduceEqDiff, reduceCtorEq, cld2, (HEx), (STx), hb, f1, f2, hii, ha, hg, Nat.add_zero]
  refine wloop_inv hmix (fun fuel env s' => env 0 = .pointer (some ⟨t, 0, none⟩) ∧ env 1 = .int .i64 (i : Int) ∧ env 27 = .int .i64 (T.n i : Int) ∧ ∃ (k : Nat) (sl' : Nat → Nat → Value), env 28 = .int .i64 (k : Int) ∧ k ≤ T.n i ∧ fuel = T.n i - k ∧ SAt PY lo s' t (flushK T i k false) N O (.slice (some ⟨b0, 0, none⟩) T.fs UNK) rb cp sl' ∧ s'.next = s.next ∧ (∀ b, ¬ O b → s'.at' b = s.at' b) ∧ s'.at' b0 = s.at' b0) (T.n i - 0) ?_ ?_
  · exact ⟨rfl, rfl, rfl, 0, sl, rfl, Nat.zero_le _, rfl, by rw [flushK_zero]; exact h, rfl, fun _ _ => rfl, rfl⟩
  rintro fuel env s2 ⟨e0, e1, e27, k, sl', e28, hk, rfl, a2, n2, k2, kb⟩
  by_cases hlt : k < T.n i
  · have hlt' : (k : Int) < (T.n i : Int) := by omega
    have hkk : (0 : Int) ≤ (k : Int) ∧ (k : Int) < (T.n i : Int) := by omega
    have w1 : IntKind.i64.wrap ((k : Int) + 1) = ((k + 1 : Nat) : Int) := by rw [wrap_i64 (by omega)]; omega
    have hb2 : s2.at' t = some (.cells [.slice (some ⟨b0, 0, none⟩) T.fs UNK, .int .i64 (T.hits : Int), .int .i64 (T.misses : Int)] 84 true) := a2.bl
    have ha2 := kb.trans ha
    have hr2 : s2.at' (rb i) = some (.cells (rows (fun m => sitC ((flushK T i k false).st i m) (sl' i m)) (T.n i)) 96 true) := a2.row i hi
    have g2 : (rows (fun m => sitC ((flushK T i k false).st i m) (sl' i m)) (T.n i))[k * 5 + 2]? = some (.bool (T.st i k).mega) := by
      rw [rows_get0 (c := fun m => sitC ((flushK T i k false).st i m) (sl' i m)) (k := 5) (fun _ => rfl) hlt (j := 2) (by omega)]
      show some (Value.bool (if i = i ∧ k < k then _ else T.st i k).mega) = _
      rw [if_neg (fun h => Nat.lt_irrefl _ h.2)]
    have hset := rows_set50 (c := fun m => sitC ((flushK T i k false).st i m) (sl' i m)) (v0 := .bool false) (v1 := .bool false) (v2 := .bool (false || (T.st i k).mega)) (v3 := .string ⟨#[]⟩) (v4 := .slice none 0 0) (fun _ => rfl) hlt
    have hlen : k * 5 + 5 ≤ (rows (fun m => sitC ((flushK T i k false).st i m) (sl' i m)) (T.n i)).length := by rw [rows_len (k := 5) (fun _ => rfl)]; omega
    simp only [Bool.false_or] at hset
    simp -implicitDefEqProofs only [↓Zd, (Zp), if_true, if_false, Nat.reduceEqDiff, reduceCtorEq, Nat.reduceAdd, okPart, Value.cells, okCell, cld2, (HEx), (STx), e0, e1, e27, e28, hlt', hkk, hb2, ha2, hii, hg, hr2, g2, bOneS, hset, hlen, w1, Nat.add_zero, ord24]
    have hrbb : rb i ≠ b0 := at_apart hr2 ha2 (by decide)
    have hrbO := h.pinR i hi
    have a3 := a2.set (s' := s2.put (rb i) (.cells (rows (fun m => if m = k then sitC { s0 with mega := false || (T.st i k).mega } (.slice none 0 0) else sitC ((flushK T i k false).st i m) (sl' i m)) (T.n i)) 96 true)) (O' := O) (z' := { s0 with mega := false || (T.st i k).mega }) (v' := .slice none 0 0) hi hlt (Nat.le_refl _) (fun _ h => h) a2.own (by rw [St.at_put, if_pos rfl]; rfl) (fun b hb hne _ => by rw [St.at_put, if_neg hne])
      ⟨fun _ => .slice none 0 0, .inl ⟨rfl, rfl, rfl⟩, fun q n c e => (by cases e), fun m hm => absurd hm (Nat.not_lt_zero _), fun _ => rfl⟩ (fun q n c e => by cases e)
    rw [flushK_succ] at a3
    refine ⟨_, Nat.sub_lt_sub_left hlt (Nat.lt_succ_self k), k + 1, _, rfl, by omega, rfl, a3, n2, fun b hb => ?_, ?_⟩
    · rw [if_neg (fun e => hb (by rw [e]; exact hrbO))]; exact k2 b hb
    · rw [if_neg (fun e => hrbb e.symm)]; exact ha.symm
  · have hlt' : ¬ (k : Int) < (T.n i : Int) := by omega
    have : k = T.n i := by omega
    subst this
    rw [flushK_all T i false hi] at a2
    simp -implicitDefEqProofs only [↓Zd, (Zp), if_true, e27, e28, hlt']
    exact hR _ ⟨_, _, _, _, a2⟩ ⟨by omega, fun b _ hO => k2 b hO, fun b hb => .inl hb⟩
set_option maxHeartbeats 8000000 in
theorem smega_spec (hS : STab PY lo s t T N O) (hfs : 0 < T.fs) {f : Int} (hR : ∀ s', STab PY lo s' t (flushT T f true) N O → Upd s s' O O → R (.tuple #[]) s') :
    CCalls Tryz.prog w0 25 #[.pointer (some ⟨t, 0, none⟩), .int .i64 f] s R := by
  refine wfun2 hmix ok25 (l := [.pointer (some ⟨t, 0, none⟩), .int .i64 f]) func25 rfl ntmps25 results25 (by simp) ?_
  obtain ⟨al, rb, cp, sl, h⟩ := hS
  have hb : s.at' t = some (.cells [al, .int .i64 (T.hits : Int), .int .i64 (T.misses : Int)] 84 true) := h.bl
  simp -implicitDefEqProofs only [↓Zd, (Zp), if_true, co51]
  refine sdead_spec h hfs ?_
  rcases h.all with ⟨h0, _, _⟩ | ⟨b0, junk, rfl, ha, _⟩
  · omega
  have ha : s.at' b0 = some (.cells (rows (fun i => [.slice (some ⟨rb i, 0, none⟩) (T.n i) (cp i)]) T.fs ++ junk) 85 true) := ha
  by_cases f1 : f < 0
  · have e : flushT T f true = T := by unfold flushT; rw [if_neg (fun hc => by omega)]
    rw [e] at hR
    simp -implicitDefEqProofs only [↓Zd, (Zp), if_true, if_false, Nat.reduceEqDiff, (HEx), f1]
    exact hR _ ⟨_, _, _, _, h⟩ (.of_le (St.le_refl _))
  by_cases f2 : (T.fs : Int) ≤ f
  · have e : flushT T f true = T := by unfold flushT; rw [if_neg (fun hc => by omega)]
    rw [e] at hR
    simp -implicitDefEqProofs only [↓Zd, (Zp), if_true, if_false, Nat.reduceEqDiff, reduceCtorEq, cld2, (HEx), (STx), hb, f1, f2]
    exact hR _ ⟨_, _, _, _, h⟩ (.of_le (St.le_refl _))
  obtain ⟨i, rfl⟩ : ∃ i : Nat, f = (i : Int) := ⟨f.toNat, by omega⟩
  have hi : i < T.fs := by omega
  have hii : (0 : Int) ≤ (i : Int) ∧ (i : Int) < (T.fs : Int) := by omega
  have hg := rows_get (c := fun i => [.slice (some ⟨rb i, 0, none⟩) (T.n i) (cp i)]) (k := 1) (fun _ => rfl) (j := 0) junk hi (by omega)
  simp only [Nat.mul_one, Nat.add_zero, List.getElem?_cons_zero] at hg
  have hni := h.small.2 i hi
  have hOn : ∀ c, O c → c < s.next := fun c hc => (h.own c hc).2
  simp -implicitDefEqProofs only [↓Zd, (Zp), if_true, if_false, Nat.reduceEqDiff, reduceCtorEq, cld2, (HEx), (STx), hb, f1, f2, hii, ha, hg, Nat.add_zero]
  refine wloop_inv hmix (fun fuel env s' => env 0 = .pointer (some ⟨t, 0, none⟩) ∧ env 1 = .int .i64 (i : Int) ∧ env 27 = .int .i64 (T.n i : Int) ∧ ∃ (k : Nat) (sl' : Nat → Nat → Value), env 28 = .int .i64 (k : Int) ∧ k ≤ T.n i ∧ fuel = T.n i - k ∧ SAt PY lo s' t (flushK T i k true) N O (.slice (some ⟨b0, 0, none⟩) T.fs UNK) rb cp sl' ∧ s'.next = s.next ∧ (∀ b, ¬ O b → s'.at' b = s.at' b) ∧ s'.at' b0 = s.at' b0) (T.n i - 0) ?_ ?_
  · exact ⟨rfl, rfl, rfl, 0, sl, rfl, Nat.zero_le _, rfl, by rw [flushK_zero]; exact h, rfl, fun _ _ => rfl, rfl⟩
  rintro fuel env s2 ⟨e0, e1, e27, k, sl', e28, hk, rfl, a2, n2, k2, kb⟩
  by_cases hlt : k < T.n i
  · have hlt' : (k : Int) < (T.n i : Int) := by omega
    have hkk : (0 : Int) ≤ (k : Int) ∧ (k : Int) < (T.n i : Int) := by omega
    have w1 : IntKind.i64.wrap ((k : Int) + 1) = ((k + 1 : Nat) : Int) := by rw [wrap_i64 (by omega)]; omega
    have hb2 : s2.at' t = some (.cells [.slice (some ⟨b0, 0, none⟩) T.fs UNK, .int .i64 (T.hits : Int), .int .i64 (T.misses : Int)] 84 true) := a2.bl
    have ha2 := kb.trans ha
    have hr2 : s2.at' (rb i) = some (.cells (rows (fun m => sitC ((flushK T i k true).st i m) (sl' i m)) (T.n i)) 96 true) := a2.row i hi
    have g2 : (rows (fun m => sitC ((flushK T i k true).st i m) (sl' i m)) (T.n i))[k * 5 + 2]? = some (.bool (T.st i k).mega) := by
      rw [rows_get0 (c := fun m => sitC ((flushK T i k true).st i m) (sl' i m)) (k := 5) (fun _ => rfl) hlt (j := 2) (by omega)]
      show some (Value.bool (if i = i ∧ k < k then _ else T.st i k).mega) = _
      rw [if_neg (fun h => Nat.lt_irrefl _ h.2)]
    have hset := rows_set50 (c := fun m => sitC ((flushK T i k true).st i m) (sl' i m)) (v0 := .bool false) (v1 := .bool false) (v2 := .bool (true || (T.st i k).mega)) (v3 := .string ⟨#[]⟩) (v4 := .slice none 0 0) (fun _ => rfl) hlt
    have hlen : k * 5 + 5 ≤ (rows (fun m => sitC ((flushK T i k true).st i m) (sl' i m)) (T.n i)).length := by rw [rows_len (k := 5) (fun _ => rfl)]; omega
    simp only [Bool.true_or] at hset
    simp -implicitDefEqProofs only [↓Zd, (Zp), if_true, if_false, Nat.reduceEqDiff, reduceCtorEq, Nat.reduceAdd, okPart, Value.cells, okCell, cld2, (STx), e0, e1, e27, e28, hlt', hkk, hb2, ha2, hii, hg, hr2, bOneS, hset, hlen, w1, Nat.add_zero]
    have hrbb : rb i ≠ b0 := at_apart hr2 ha2 (by decide)
    have hrbO := h.pinR i hi
    have a3 := a2.set (s' := s2.put (rb i) (.cells (rows (fun m => if m = k then sitC { s0 with mega := true || (T.st i k).mega } (.slice none 0 0) else sitC ((flushK T i k true).st i m) (sl' i m)) (T.n i)) 96 true)) (O' := O) (z' := { s0 with mega := true || (T.st i k).mega }) (v' := .slice none 0 0) hi hlt (Nat.le_refl _) (fun _ h => h) a2.own (by rw [St.at_put, if_pos rfl]; rfl) (fun b hb hne _ => by rw [St.at_put, if_neg hne])
      ⟨fun _ => .slice none 0 0, .inl ⟨rfl, rfl, rfl⟩, fun q n c e => (by cases e), fun m hm => absurd hm (Nat.not_lt_zero _), fun _ => rfl⟩ (fun q n c e => by cases e)
    rw [flushK_succ] at a3
    refine ⟨_, Nat.sub_lt_sub_left hlt (Nat.lt_succ_self k), k + 1, _, rfl, by omega, rfl, a3, n2, fun b hb => ?_, ?_⟩
    · rw [if_neg (fun e => hb (by rw [e]; exact hrbO))]; exact k2 b hb
    · rw [if_neg (fun e => hrbb e.symm)]; exact ha.symm
  · have hlt' : ¬ (k : Int) < (T.n i : Int) := by omega
    have : k = T.n i := by omega
    subst this
    rw [flushK_all T i true hi] at a2
    simp -implicitDefEqProofs only [↓Zd, (Zp), if_true, e27, e28, hlt']
    exact hR _ ⟨_, _, _, _, a2⟩ ⟨by omega, fun b _ hO => k2 b hO, fun b hb => .inl hb⟩
end
end Go.Proofs.Tryz
