/- A heap and the document's, side by side: the walk of an act. A lemma file: no statement of its own. -/
import Derived.Test.YtakgfhdaimeafaaGreatqFwF
import Derived.Test.YtakgfhdaimeafaaGreatqRH15
import Derived.Test.YtakgfhdaimeafaaGreatqVEq
set_option linter.unusedSimpArgs false
set_option linter.unusedVariables false
set_option linter.unusedSectionVars false
namespace Go.Proofs.Tryz
open Go.Cs
open Go.RowKit (Below)
set_option maxRecDepth 100000
attribute [local irreducible] CCalls WLoop WScope CRound WRange
section
variable {M : Type} [Mem M] {w0 : World} {s : St M} {R : Value → St M → Prop} {lo p N r : Nat} {H : Hp} {O Q : Nat → Prop}
structure TwoH (lo : Nat) (s : St M) (p r : Nat) (H : Hp) (N : Nat) (O Q : Nat → Prop) : Prop where
  h : HpAt lo s p H N O
  g : RHpAt lo s r H N Q
  dis : ∀ b, O b → ¬ Q b
theorem TwoH.le {s' : St M} (t : TwoH lo s p r H N O Q) (hs : s.le s') : TwoH lo s' p r H N O Q := ⟨t.h.le hs, t.g.le hs, t.dis⟩
theorem TwoH.mono {N' : Nat} (t : TwoH lo s p r H N O Q) (hN : N ≤ N') : TwoH lo s p r H N' O Q := ⟨t.h.mono hN, t.g.mono hN, t.dis⟩
theorem TwoH.g2 {s' : St M} {P : Nat → Prop} (t : TwoH lo s p r H N O Q) (hU : Upd s s' O P) : RHpAt lo s' r H N Q :=
  t.g.same hU.next fun c hc => hU.keep c (t.g.own c hc).2 fun h => t.dis c h hc
theorem TwoH.both {s' s2 : St M} {P Q2 : Nat → Prop} {H' : Hp} {N' : Nat} (t : TwoH lo s p r H N O Q) (hU : Upd s s' O P) (hU2 : Upd s' s2 Q Q2) (hP : HpAt lo s' p H' N' P) (hQ : RHpAt lo s2 r H' N' Q2) : TwoH lo s2 p r H' N' P Q2 ∧ s.next ≤ s2.next ∧ ∀ b, b < s.next → ¬ O b → ¬ Q b → s2.at' b = s.at' b := by
  have hPQ : ∀ c, P c → ¬ Q c := fun c hc hq => by
    rcases hU.own c hc with h | h
    · exact t.dis c h hq
    · have := (t.g.own c hq).2; omega
  refine ⟨⟨hP.same hU2.next fun c hc => hU2.keep c (hP.own c hc).2 (hPQ c hc), hQ, fun c hc hq => ?_⟩, by have := hU.next; have := hU2.next; omega, fun c hc h1 h2 => by rw [hU2.keep c (by have := hU.next; omega) h2, hU.keep c hc h1]⟩
  rcases hU2.own c hq with h | h
  · exact hPQ c hc h
  · have := (hP.own c hc).2; omega
set_option maxHeartbeats 16000000 in
theorem rdone_spec (t : TwoH lo s p r H N O Q) (hlo : lo ≤ s.next) {x : ActD} (hx : ActOk x) (hN : N + 3 ≤ 1000000) (hN2 : 32 ≤ N)
    (hR : ∀ s' O' Q', TwoH lo s' p r (doneH H x) (N + 3) O' Q' → s.next ≤ s'.next → (∀ b, b < s.next → ¬ O b → ¬ Q b → s'.at' b = s.at' b) → R (.bool true) s') : CCalls Tryz.prog w0 10 #[.pointer (some ⟨p, 0, none⟩), .pointer (some ⟨r, 0, none⟩), .agg #[.int .i64 x.d, .int .i64 x.a, .int .i64 x.b, .string x.name, .int .i64 x.v.1, .int .i64 x.v.2.1, .string x.v.2.2]] s R := by
  obtain ⟨x0, x1, x2, x3, v1, v2, v3⟩ := x
  obtain ⟨q0, q1, q2, q3, q4⟩ := hx
  simp only [I64] at q0 q1 q2 q3 q4
  refine wfun2 hmix ok10 (l := [.pointer (some ⟨p, 0, none⟩), .pointer (some ⟨r, 0, none⟩), .agg #[.int .i64 x0, .int .i64 x1, .int .i64 x2, .string x3, .int .i64 v1, .int .i64 v2, .string v3]]) func10 rfl ntmps10 results10 (by simp) ?_
  have l1 : s.le (s.new (.cells [.int .i64 x0, .int .i64 x1, .int .i64 x2, .string x3, .int .i64 v1, .int .i64 v2, .string v3] 32 true)) := St.le_new (St.le_refl _)
  have c5 : (s.new (.cells [.int .i64 x0, .int .i64 x1, .int .i64 x2, .string x3, .int .i64 v1, .int .i64 v2, .string v3] 32 true)).at' s.next = some (.cells [.int .i64 x0, .int .i64 x1, .int .i64 x2, .string x3, .int .i64 v1, .int .i64 v2, .string v3] 32 true) := by rw [St.at_new, if_pos rfl]
  have t1 := t.le l1
  have hn1 : (s.new (.cells [.int .i64 x0, .int .i64 x1, .int .i64 x2, .string x3, .int .i64 v1, .int .i64 v2, .string v3] 32 true)).next = s.next + 1 := rfl
  have hOn : ¬ O s.next := fun hc => by have := (t.h.own _ hc).2; omega
  have hkp : ∀ b, b < s.next → (s.new (.cells [.int .i64 x0, .int .i64 x1, .int .i64 x2, .string x3, .int .i64 v1, .int .i64 v2, .string v3] 32 true)).at' b = s.at' b := l1.2
  generalize hs1 : s.new (.cells [.int .i64 x0, .int .i64 x1, .int .i64 x2, .string x3, .int .i64 v1, .int .i64 v2, .string v3] 32 true) = s1 at l1 c5 t1 hn1 hkp
  have hlo1 : lo ≤ s1.next := by omega
  have keep : ∀ {s2 : St M} {P : Nat → Prop}, Upd s1 s2 O P → s2.at' s.next = some (.cells [.int .i64 x0, .int .i64 x1, .int .i64 x2, .string x3, .int .i64 v1, .int .i64 v2, .string v3] 32 true) := fun hU => (hU.keep _ (by omega) hOn).trans c5
  have hend : ∀ {s2 s3 : St M} {P Q2 : Nat → Prop} {H' : Hp} {N' : Nat}, Upd s1 s2 O P → Upd s2 s3 Q Q2 → HpAt lo s2 p H' N' P → RHpAt lo s3 r H' N' Q2 → N' ≤ N + 3 → doneH H ⟨x0, x1, x2, x3, v1, v2, v3⟩ = H' → R (.bool true) s3 := fun hU hU2 hP hQ hN' e => by
    obtain ⟨a1, a2, a3⟩ := t1.both hU hU2 hP hQ
    subst e
    exact hR _ _ _ (a1.mono hN') (by omega) fun b hb h1 h2 => (a3 b (by omega) h1 h2).trans (hkp b hb)
  by_cases d0 : x0 = 0
  · subst d0
    simp -implicitDefEqProofs only [↓Zd, (Zp), if_true, if_false, Nat.reduceEqDiff, reduceCtorEq, okPart, Value.cells, cld2, (HEx), (ACx), hs1, c5, co23]
    refine hmake_spec t1.h hlo1 fun s2 P hP hU => ?_
    have c52 := keep hU
    have hlo2 : lo ≤ s2.next := by have := hU.next; omega
    have hmv : ∃ a b, makeV H = .tuple #[.int .i64 a, .int .i64 b] := by unfold makeV; split <;> exact ⟨_, _, rfl⟩
    obtain ⟨ma, mb, hmv⟩ := hmv
    rw [hmv]
    simp -implicitDefEqProofs only [↓Zd, (Zp), if_true, if_false, Nat.reduceEqDiff, (HEx), co30]
    refine rmake_spec (t1.g2 hU) hlo2 fun s3 P2 hP2 hU2 => ?_
    rw [hmv]
    simp -implicitDefEqProofs only [↓Zd, (Zp), if_true, if_false, Nat.reduceEqDiff, (REx)]
    exact hend hU hU2 hP hP2 (by omega) (by unfold doneH; simp only [if_true])
  · by_cases d1 : x0 = 1
    · subst d1
      simp -implicitDefEqProofs only [↓Zd, (Zp), if_true, if_false, Nat.reduceEqDiff, reduceCtorEq, Int.reduceEq, Nat.reduceAdd, Nat.reduceLeDiff, okPart, Value.cells, cut, cld2, (HEx), (ACx), hs1, c5, ord10, co18]
      refine hset_spec (k := v1) (n := v2) (y := v3) t1.h hlo1 hN hN2 q1 fun s2 P hP hU => ?_
      have c52 := keep hU
      have hlo2 : lo ≤ s2.next := by have := hU.next; omega
      simp -implicitDefEqProofs only [↓Zd, (Zp), if_true, if_false, Nat.reduceEqDiff, Nat.reduceAdd, Nat.reduceLeDiff, Nat.reduceBEq, cut, cld2, (HEx), c52, co31]
      refine rset_spec (k := v1) (n := v2) (y := v3) (t1.g2 hU) hlo2 hN fun s3 P2 hP2 hU2 => ?_
      simp -implicitDefEqProofs only [↓Zd, (Zp), if_true, if_false, Nat.reduceEqDiff, (HEx)]
      exact hend hU hU2 hP hP2 (by omega) (by unfold doneH; simp only [if_neg d0, if_true])
    · by_cases d2 : x0 = 2
      · subst d2
        simp -implicitDefEqProofs only [↓Zd, (Zp), if_true, if_false, Nat.reduceEqDiff, reduceCtorEq, Int.reduceEq, okPart, Value.cells, cld2, (HEx), (ACx), hs1, c5, ord10, co24]
        refine hdel_spec t1.h hlo1 hN hN2 q1 fun s2 P hP hU => ?_
        have c52 := keep hU
        have hlo2 : lo ≤ s2.next := by have := hU.next; omega
        simp -implicitDefEqProofs only [↓Zd, (Zp), if_true, if_false, Nat.reduceEqDiff, Nat.reduceBEq, cld2, (HEx), c52, co32]
        refine rdel_spec (t1.g2 hU) hlo2 hN fun s3 P2 hP2 hU2 => ?_
        simp -implicitDefEqProofs only [↓Zd, (Zp), if_true, if_false, Nat.reduceEqDiff, (HEx)]
        exact hend hU hU2 hP hP2 (by omega) (by unfold doneH; simp only [if_neg d0, if_neg d1, if_true])
      · by_cases d3 : x0 = 3
        · subst d3
          simp -implicitDefEqProofs only [↓Zd, (Zp), if_true, if_false, Nat.reduceEqDiff, reduceCtorEq, Int.reduceEq, okPart, Value.cells, cld2, (HEx), (ACx), hs1, c5, ord10, co25]
          refine hsetproto_spec t1.h hlo1 hN hN2 q1 q2 fun s2 P hP hU => ?_
          have c52 := keep hU
          have hlo2 : lo ≤ s2.next := by have := hU.next; omega
          simp -implicitDefEqProofs only [↓Zd, (Zp), if_true, if_false, Nat.reduceEqDiff, Nat.reduceBEq, cld2, (HEx), c52, co33]
          refine rsetproto_spec (t1.g2 hU) hlo2 hN fun s3 P2 hP2 hU2 => ?_
          simp -implicitDefEqProofs only [↓Zd, (Zp), if_true, if_false, Nat.reduceEqDiff, (HEx)]
          exact hend hU hU2 hP hP2 (by omega) (by unfold doneH; simp only [if_neg d0, if_neg d1, if_neg d2, if_true])
        · by_cases d4 : x0 = 4
          · subst d4
            simp -implicitDefEqProofs only [↓Zd, (Zp), if_true, if_false, Nat.reduceEqDiff, reduceCtorEq, Int.reduceEq, Nat.reduceAdd, Nat.reduceLeDiff, okPart, Value.cells, cut, cld2, (HEx), (ACx), hs1, c5, ord10, co34]
            refine hput_spec (k := v1) (n := v2) (y := v3) t1.h q1 q2 fun s2 P hP hU => ?_
            have c52 := keep hU
            have hlo2 : lo ≤ s2.next := by have := hU.next; omega
            simp -implicitDefEqProofs only [↓Zd, (Zp), if_true, if_false, Nat.reduceEqDiff, Nat.reduceAdd, Nat.reduceLeDiff, Nat.reduceBEq, cut, cld2, (HEx), c52, co35]
            refine rput_spec (k := v1) (n := v2) (y := v3) (t1.g2 hU) hlo2 fun s3 P2 hP2 hU2 => ?_
            simp -implicitDefEqProofs only [↓Zd, (Zp), if_true, if_false, Nat.reduceEqDiff, (HEx)]
            exact hend hU hU2 hP hP2 (by omega) (by unfold doneH; simp only [if_neg d0, if_neg d1, if_neg d2, if_neg d3, if_true])
          · by_cases d5 : x0 = 5
            · subst d5
              simp -implicitDefEqProofs only [↓Zd, (Zp), if_true, if_false, Nat.reduceEqDiff, reduceCtorEq, Int.reduceEq, Nat.reduceAdd, Nat.reduceLeDiff, okPart, Value.cells, cut, cld2, (HEx), (ACx), hs1, c5, ord10, co36]
              refine hgrow_spec (k := v1) (n := v2) (y := v3) t1.h hlo1 hN q1 q2 fun s2 P hP hU => ?_
              have c52 := keep hU
              have hlo2 : lo ≤ s2.next := by have := hU.next; omega
              simp -implicitDefEqProofs only [↓Zd, (Zp), if_true, if_false, Nat.reduceEqDiff, Nat.reduceAdd, Nat.reduceLeDiff, Nat.reduceBEq, cut, cld2, (HEx), c52, co37]
              refine rgrow_spec (k := v1) (n := v2) (y := v3) (t1.g2 hU) hlo2 hN q2 fun s3 P2 hP2 hU2 => ?_
              simp -implicitDefEqProofs only [↓Zd, (Zp), if_true, if_false, Nat.reduceEqDiff, (HEx)]
              exact hend hU hU2 hP hP2 (by omega) (by unfold doneH; simp only [if_neg d0, if_neg d1, if_neg d2, if_neg d3, if_neg d4, if_true])
            · have t1' := t1
              obtain ⟨⟨hpro, tg, pf, pn, sl, bs, hi⟩, _, _⟩ := t1
              by_cases d6 : x0 = 6
              · subst d6
                simp -implicitDefEqProofs only [↓Zd, (Zp), if_true, if_false, Nat.reduceEqDiff, reduceCtorEq, Int.reduceEq, okPart, Value.cells, cld2, (HEx), (ACx), hs1, c5, ord10, co38]
                refine hnext_spec hi hlo1 (by omega) q2 fun s2 P tg2 hP hU _ => ?_
                have c52 := keep hU
                have hlo2 : lo ≤ s2.next := by have := hU.next; omega
                obtain ⟨hpro2, tgr, pfr, slr, tlr, bsr, gi⟩ := t1'.g2 hU
                simp -implicitDefEqProofs only [↓Zd, (Zp), if_true, if_false, Nat.reduceEqDiff, Nat.reduceBEq, cld2, (HEx), c52, co39]
                refine rnext_spec gi hlo2 (by omega) q2 fun s3 P2 tg3 tl3 hP2 hU2 => ?_
                simp -implicitDefEqProofs only [↓Zd, (Zp), if_true, if_false, Nat.reduceEqDiff, (HEx)]
                exact hend hU hU2 ⟨next_pro hpro _ _, _, _, _, _, _, hP⟩ ⟨next_pro hpro2 _ _, _, _, _, _, _, hP2⟩ (by omega) (by unfold doneH; simp only [if_neg d0, if_neg d1, if_neg d2, if_neg d3, if_neg d4, if_neg d5, if_true])
              · simp -implicitDefEqProofs only [↓Zd, (Zp), if_true, if_false, Nat.reduceEqDiff, reduceCtorEq, okPart, Value.cells, cld2, (HEx), (ACx), hs1, c5, d0, d1, d2, d3, d4, d5, d6, ord10, co15]
                refine hget_spec hi q1 fun s2 w hs2 hw => ?_
                have hU : Upd s1 s2 O O := .of_le hs2
                have c52 := keep hU
                obtain ⟨hpro2, tgr, pfr, slr, tlr, bsr, gi⟩ := t1'.g2 hU
                obtain ⟨w1, w2, w3⟩ := w
                simp only [vOf, vA]
                simp -implicitDefEqProofs only [↓Zd, (Zp), if_true, if_false, Nat.reduceEqDiff, Nat.reduceBEq, cld2, (HEx), c52, co40]
                refine rget_spec gi fun s3 w' hs3 hw' => ?_
                cases hw.one hw'
                have hU2 : Upd s2 s3 Q Q := .of_le hs3
                simp only [vOf, vA]
                simp -implicitDefEqProofs only [↓Zd, (Zp), if_true, if_false, Nat.reduceEqDiff, (HEx), Vsame]
                exact hend hU hU2 (t1'.h.le hs2) ⟨hpro2, _, _, _, _, _, gi.le hs3⟩ (by omega) (by unfold doneH; simp only [if_neg d0, if_neg d1, if_neg d2, if_neg d3, if_neg d4, if_neg d5, if_neg d6])
end
end Go.Proofs.Tryz
