/- The walk of the document's strings as they are written. A lemma file: no statement of its own. -/
import Derived.Test.YtakgfhdaimeafaaGreatqFwF
import Derived.Test.YtakgfhdaimeafaaGreatqQuoteM
import Derived.Test.YtakgfhdaimeafaaGreatqDig0
set_option linter.unusedSimpArgs false
set_option linter.unusedVariables false
set_option linter.unusedSectionVars false
namespace Go.Proofs.Tryz
open Go.Cs
open Go.RowKit (Below)
set_option maxRecDepth 100000
attribute [local irreducible] CCalls WLoop WScope
section
variable {M : Type} [Mem M] {w0 : World} {s : St M} {R : Value → St M → Prop}
theorem rPlain_spec {c : UInt8} (h : R (.bool (plainB c)) s) : CCalls Tryz.prog w0 124 #[.int .u8 c.toNat] s R := by
  refine wfun2 hmix ok124 (l := [.int .u8 c.toNat]) func124 rfl ntmps124 results124 (by simp) ?_
  unfold plainB at h
  by_cases h1 : 32 ≤ (c.toNat : Int) <;> by_cases h2 : (c.toNat : Int) ≤ 126 <;> by_cases h3 : (c.toNat : Int) = 34 <;> by_cases h4 : (c.toNat : Int) = 92
  all_goals
    simp only [h1, h2, h3, h4, decide_true, decide_false, Bool.false_and, Bool.not_true, Bool.not_false, Bool.and_true, Bool.and_false] at h
    simp -implicitDefEqProofs only [↓Zd, (Zp), if_true, if_false, Nat.reduceEqDiff, reduceCtorEq, Int.reduceEq, Int.reduceLE, h1, h2, h3, h4]
    exact h
structure RB (s0 s : St M) (sl : Value) (l : List UInt8) : Prop where
  le : s0.le s
  sc : SlC 5 1 s sl (l.map toV) l.length
  at' : ∀ q n c, sl = .slice (some q) n c → s0.next ≤ q.block ∧ q.block < s.next
theorem RB.app {s0 s1 : St M} {sl : Value} {l new : List UInt8} (hB : RB s0 s1 sl l) (hne : new ≠ []) (hlen : l.length + new.length ≤ 140737488355328) :
    ∃ s3, capp Tryz.prog #[112, 112] #[sl, .slice (some ⟨s1.next, 0, none⟩) new.length new.length] (s1.new (.cells (new.map toV) 5 true)) = some (.slice (some ⟨s1.next + 1, 0, none⟩) (l ++ new).length UNK, s3) ∧
      RB s0 s3 (.slice (some ⟨s1.next + 1, 0, none⟩) (l ++ new).length UNK) (l ++ new) := by
  have hsl : SlC 5 1 (s1.new (.cells (new.map toV) 5 true)) sl (l.map toV) l.length := hB.sc.same fun q m c e => by
    rw [St.at_new, if_neg (by have := hB.at' q m c e; omega)]
  obtain ⟨s3, h1, h2, h3, h4⟩ := app_bytes (s := s1.new (.cells (new.map toV) 5 true)) (v := .slice (some ⟨s1.next, 0, none⟩) new.length new.length) (new := new) (.inl underlying112) hne hlen hsl
    (by simp only [more_at, St.at_new, if_true, more2]; rw [cut_all (by simp)]; rfl)
  simp only [St.next_new] at h1 h2 h3 h4
  refine ⟨s3, h1, ⟨⟨by have := hB.le.1; omega, fun b hb => ?_⟩, .inr ⟨_, _, rfl, .inl rfl, h3, by simp⟩, fun q n c e => ?_⟩⟩
  · rw [h4 b (by have := hB.le.1; omega) (fun q n c e => by have := hB.at' q n c e; omega), St.at_new, if_neg (by have := hB.le.1; omega)]
    exact hB.le.2 b hb
  · cases e
    have := hB.le.1
    exact ⟨by show _ ≤ s1.next + 1; omega, by show s1.next + 1 < _; omega⟩
theorem rowB3 (a b c : Int) : crow Tryz.prog 112 3 #[(0, .int .u8 a), (1, .int .u8 b), (2, .int .u8 c)] = some (.cells [.int .u8 a, .int .u8 b, .int .u8 c] 5 true) := by kernel_rfl
theorem toV34 : toV 34 = .int .u8 34 := rfl
theorem toV92 : toV 92 = .int .u8 92 := rfl
theorem toV120 : toV 120 = .int .u8 120 := rfl
theorem toV_def (c : UInt8) : toV c = .int .u8 c.toNat := rfl
def rquoteI (x : ByteArray) (s : St M) (k : Nat) (env : Env) (s' : St M) : Prop := ∃ i : Nat, k = x.size - i ∧ i ≤ x.size ∧ env 5 = .int .i64 i ∧ RB s s' (env 4) (34 :: (x.data.toList.take i).flatMap escB)
set_option maxHeartbeats 4000000 in
theorem rQuote_spec {x : ByteArray} (hx : x.size ≤ 1000000) (h : ∀ s', s.le s' → R (.string (quoteS x)) s') : CCalls Tryz.prog w0 118 #[.string x] s R := by
  refine wfun2 hmix ok118 (l := [.string x]) func118 rfl ntmps118 results118 (by simp) ?_
  simp -implicitDefEqProofs only [↓Zd, (Zp), if_true, if_false, Nat.reduceEqDiff, rowB]
  refine wloop_fix hmix [8, 9, 10, 11, 14, 15, 16, 6, 17, 18, 19, 20, 21, 22, 4, 23, 24, 25, 26, 27, 28, 29, 30, 31, 32, 33, 34, 35, 36, 37, 38, 39, 40, 41, 42, 43, 44, 45, 46, 12, 13, 5] (rquoteI x s) (x.size - 0) ?_ ?_
  · refine ⟨0, rfl, by omega, rfl, ⟨St.le_new (St.le_refl s), .inr ⟨s.next, 1, rfl, .inr ⟨rfl, by decide⟩, by simp [toV], by simp⟩, fun q n c e => ?_⟩⟩
    cases e
    exact ⟨Nat.le_refl _, by simp⟩
  · rintro k env s' hF ⟨i, rfl, hi, e5, hB⟩
    have e0 : env 0 = .string x := by rw [hF 0 rfl]; rfl
    have e3 : env 3 = .string hexS := by rw [hF 3 rfl]; rfl
    obtain ⟨sl, e4⟩ : ∃ sl, env 4 = sl := ⟨_, rfl⟩
    rw [e4] at hB
    have hlen : (34 :: (x.data.toList.take i).flatMap escB).length ≤ 4000001 := by
      have h1 := flat_len (x.data.toList.take i)
      have h2 : (x.data.toList.take i).length ≤ i := List.length_take_le _ _
      simp only [List.length_cons]; omega
    by_cases hlt : i < x.size
    · obtain ⟨c, hc, ht⟩ := byte_at' hlt
      have hlt' : (i : Int) < (x.size : Int) := by omega
      have h0 : (0 : Int) ≤ (i : Int) := by omega
      have w7 : IntKind.i64.wrap ((i : Int) + 1) = ((i + 1 : Nat) : Int) := by rw [wrap_i64 (by omega)]; omega
      have hnext : ∀ {env' : Env} {s2 : St M}, env' 5 = .int .i64 ((i + 1 : Nat) : Int) → RB s s2 (env' 4) ((34 :: (x.data.toList.take i).flatMap escB) ++ escB c) → ∃ m, m < x.size - i ∧ rquoteI x s m env' s2 := by
        intro env' s2 h9 hB2
        refine ⟨x.size - (i + 1), by omega, i + 1, rfl, by omega, h9, ?_⟩
        rw [ht, List.flatMap_append]
        simpa using hB2
      simp -implicitDefEqProofs only [↓Zd, (Zp), if_true, if_false, Nat.reduceEqDiff, reduceCtorEq, underlying9, e0, e5, hlt', h0, hc, co124]
      refine rPlain_spec ?_
      by_cases hp : plainB c = true
      · have he : escB c = [c] := by simp [escB, hp]
        rw [hp]
        obtain ⟨s3, happ, hB3⟩ := hB.app (new := [c]) (by simp) (by simp only [List.length_cons, List.length_nil] at hlen ⊢; omega)
        simp only [List.length_cons, List.length_nil, List.map_cons, List.map_nil, Nat.zero_add] at happ
        try simp only [toV34, toV92, toV120] at happ
        try simp only [toV_def] at happ
        simp -implicitDefEqProofs only [↓Zd, (Zp), if_true, if_false, Nat.reduceEqDiff, underlying4, e4, e5, rowB, happ, w7]
        refine ⟨?_, hnext rfl (by rw [he]; exact hB3)⟩
        repeat (first | exact hF | refine Fix.upd (by decide) ?_)
      · have hp' : plainB c = false := by simpa using hp
        rw [hp']
        obtain ⟨s3, happ, hB3⟩ := hB.app (new := [92]) (by simp) (by simp only [List.length_cons, List.length_nil] at hlen ⊢; omega)
        simp only [List.length_cons, List.length_nil, List.map_cons, List.map_nil, Nat.zero_add] at happ
        try simp only [toV92] at happ
        try simp only [toV_def] at happ
        by_cases hq : (c.toNat : Int) = 34 ∨ (c.toNat : Int) = 92
        · have he : escB c = [92, c] := by simp only [escB, hp', Bool.false_eq_true, if_false, if_pos hq]
          obtain ⟨s4, happ2, hB4⟩ := hB3.app (new := [c]) (by simp) (by simp only [List.length_append, List.length_cons, List.length_nil] at hlen ⊢; omega)
          simp only [List.length_append, List.length_cons, List.length_nil, List.map_cons, List.map_nil, Nat.zero_add] at happ2
          try simp only [toV34, toV92, toV120] at happ2
          try simp only [toV_def] at happ2
          have hq' : decide ((c.toNat : Int) = 34) = true ∨ (decide ((c.toNat : Int) = 34) = false ∧ decide ((c.toNat : Int) = 92) = true) := by
            by_cases h1 : (c.toNat : Int) = 34
            · exact .inl (by simpa using h1)
            · exact .inr ⟨by simpa using h1, by rcases hq with h2 | h2; exact absurd h2 h1; simpa using h2⟩
          rcases hq' with h1 | ⟨h1, h2⟩
          all_goals
            simp -implicitDefEqProofs only [↓Zd, (Zp), if_true, if_false, Nat.reduceEqDiff, Nat.reduceAdd, underlying4, e4, e5, rowB, happ, happ2, h1, w7, List.length_append]
            try simp -implicitDefEqProofs only [↓Zd, (Zp), if_true, if_false, Nat.reduceEqDiff, Nat.reduceAdd, e4, e5, rowB, happ2, h2, w7]
            refine ⟨?_, hnext rfl (by rw [he]; have := hB4; simp only [List.length_append, List.length_cons, List.length_nil, Nat.zero_add] at this; rw [List.append_assoc] at this; exact this)⟩
            repeat (first | exact hF | refine Fix.upd (by decide) ?_)
        · have h1 : ¬ (c.toNat : Int) = 34 := fun e => hq (.inl e)
          have h2 : ¬ (c.toNat : Int) = 92 := fun e => hq (.inr e)
          have he : escB c = [92, 120, hexB (c.toNat / 16), hexB (c.toNat % 16)] := by simp only [escB, hp', Bool.false_eq_true, if_false, if_neg hq]
          have hc255 : c.toNat ≤ 255 := by have := c.toNat_lt; omega
          have w8 : (c.toNat : Int).tdiv 16 = ((c.toNat / 16 : Nat) : Int) := by rw [Int.tdiv_eq_ediv_of_nonneg (by omega)]; omega
          have w9 : (c.toNat : Int).tmod 16 = ((c.toNat % 16 : Nat) : Int) := by rw [Int.tmod_eq_emod_of_nonneg (by omega)]; omega
          have w10 : IntKind.u8.wrap ((c.toNat / 16 : Nat) : Int) = ((c.toNat / 16 : Nat) : Int) := wrap_u8 (by omega)
          have hx1 := hex_at (n := c.toNat / 16) (by omega)
          have hx2 := hex_at (n := c.toNat % 16) (by omega)
          have h3 : (0 : Int) ≤ ((c.toNat / 16 : Nat) : Int) := by omega
          have h4 : (0 : Int) ≤ ((c.toNat % 16 : Nat) : Int) := by omega
          obtain ⟨s4, happ2, hB4⟩ := hB3.app (new := [120, hexB (c.toNat / 16), hexB (c.toNat % 16)]) (by simp) (by simp only [List.length_append, List.length_cons, List.length_nil] at hlen ⊢; omega)
          simp only [List.length_append, List.length_cons, List.length_nil, List.map_cons, List.map_nil, Nat.zero_add] at happ2
          try simp only [toV120] at happ2
          try simp only [toV_def] at happ2
          simp -implicitDefEqProofs only [↓Zd, (Zp), if_true, if_false, ne_eq, Nat.reduceEqDiff, Int.reduceEq, Nat.reduceAdd, underlying4, underlying9, e3, e4, e5, rowB, rowB3, happ, happ2, h1, h2, h3, h4, hx1, hx2, w8, w9, w10, w7, List.length_append, ord118]
          refine ⟨?_, hnext rfl (by rw [he]; have := hB4; simp only [List.length_append, List.length_cons, List.length_nil, Nat.zero_add] at this; rw [List.append_assoc] at this; exact this)⟩
          repeat (first | exact hF | refine Fix.upd (by decide) ?_)
    · have hlt' : ¬ (i : Int) < (x.size : Int) := by omega
      have htk : x.data.toList.take i = x.data.toList := List.take_of_length_le (by simp; omega)
      rw [htk] at hB hlen
      obtain ⟨s3, happ, hB3⟩ := hB.app (new := [34]) (by simp) (by simp only [List.length_cons, List.length_nil] at hlen ⊢; omega)
      simp only [List.length_append, List.length_cons, List.length_nil, List.map_cons, List.map_nil, Nat.zero_add] at happ
      try simp only [toV34] at happ
      try simp only [toV_def] at happ
      have hbs : cbs2 (s3.at' (s'.next + 1)) 0 (((x.data.toList.flatMap escB).length + 1) + 1) = some (.string (quoteS x)) := by
        rcases hB3.sc with ⟨h1, _⟩ | ⟨b, c, h1, _, h2, _⟩
        · simp at h1
        · cases h1
          rw [h2, cbs2_all (l := 34 :: (x.data.toList.flatMap escB) ++ [34]) (by simp) rfl]
          simp [quoteS, quoteL]
      simp -implicitDefEqProofs only [↓Zd, (Zp), if_true, if_false, Nat.reduceEqDiff, reduceCtorEq, Nat.reduceAdd, underlying9, e0, e4, e5, rowB, happ, hlt', hbs, ↓o_bs underlying112 underlying9 underlying5]
      exact h _ hB3.le
end
end Go.Proofs.Tryz
