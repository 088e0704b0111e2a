/- An act on a heap, beside the document's heap that has no objects. A lemma file: no statement of its own. -/
import Derived.Test.YtakgfhdaimeafaaGreatqFwF
import Derived.Test.YtakgfhdaimeafaaGreatqRN0
import Derived.Test.YtakgfhdaimeafaaGreatqHH0
import Derived.Test.YtakgfhdaimeafaaGreatqRowA12
import Derived.Test.YtakgfhdaimeafaaGreatqVEq
import Derived.Test.YtakgfhdaimeafaaGreatqHeap0
set_option linter.unusedSimpArgs false
set_option linter.unusedVariables false
set_option linter.unusedSectionVars false
namespace Go.Proofs.Tryz
open Go.Cs
open Go.RowKit (Below)
set_option maxRecDepth 100000
attribute [local irreducible] CCalls WLoop WScope CRound WRange
noncomputable def doneH (H : Hp) (x : ActD) : Hp := if x.d = 0 then makeH H else if x.d = 1 then setH H x.a x.name x.v else if x.d = 2 then delH H x.a x.name else if x.d = 3 then protoH H x.a x.b else if x.d = 4 then putH H x.a x.b x.v else if x.d = 5 then growH H x.a x.b x.v else if x.d = 6 then nextH H x.b x.name else H
theorem HSz.put0 {B : Nat} {H : Hp} (h : HSz B H) (i k : Int) {v : V3} (hv : v.2.2.size ≤ B ∧ -9223372036854775808 ≤ v.2.1 ∧ v.2.1 ≤ 9223372036854775807) : HSz B (putH H i k v) := by
  unfold putH
  cases ha : obAt H i with
  | none => exact h
  | some a =>
    simp only
    split
    · exact h
    · split
      · split
        · rename_i x w hk
          refine h.put rfl fun p hp => ?_
          rcases List.mem_or_eq_of_mem_set hp with hp | rfl
          · exact h.at ha p hp
          · exact ⟨(h.at ha _ (List.mem_of_getElem? hk)).1, hv⟩
        · exact h
      · exact h
def TSz (B : Nat) (H : Hp) : Prop := ∀ x ∈ H.T, x.size ≤ B
theorem txt_sz {B : Nat} {T : List ByteArray} (h : ∀ x ∈ T, x.size ≤ B) (i : Nat) : (txt T i).size ≤ B := by
  unfold txt
  rw [List.getD_eq_getElem?_getD]
  cases hx : T[i - 1]? with
  | none => exact Nat.zero_le _
  | some x => exact h x (List.mem_of_getElem? hx)
theorem HSz.grow {B : Nat} {H : Hp} (h : HSz B H) (ht : TSz B H) (i to : Int) {v : V3} (hv : v.2.2.size ≤ B ∧ -9223372036854775808 ≤ v.2.1 ∧ v.2.1 ≤ 9223372036854775807) : HSz B (growH H i to v) := by
  unfold growH
  cases ha : obAt H i with
  | none => exact h
  | some a =>
    simp only
    split
    · refine h.put rfl fun p hp => ?_
      rcases List.mem_append.1 hp with hp | hp
      · exact h.at ha p hp
      · simp only [List.mem_cons, List.not_mem_nil, or_false] at hp
        subst hp
        exact ⟨txt_sz ht _, hv⟩
    · exact h
theorem ofT_sz {B : Nat} {T : List ByteArray} {x : ByteArray} (h : ∀ y ∈ T, y.size ≤ B) (hx : x.size ≤ B) : ∀ y ∈ ofT T x, y.size ≤ B := by
  intro y hy
  cases hi : idxOf T x with
  | some j => rw [ofT_some hi] at hy; exact h y hy
  | none =>
    rw [ofT_none hi] at hy
    rcases List.mem_append.1 hy with hy | hy
    · exact h y hy
    · simp only [List.mem_cons, List.not_mem_nil, or_false] at hy
      subst hy; exact hx
theorem TSz.next {B : Nat} {H : Hp} (h : TSz B H) (i : Int) {x : ByteArray} (hx : x.size ≤ B) : TSz B (nextH H i x) := by
  unfold nextH
  split
  · exact ofT_sz h hx
  · exact h
theorem TSz.set {B : Nat} {H : Hp} (h : TSz B H) (i : Int) {x : ByteArray} (v : V3) (hx : x.size ≤ B) : TSz B (setH H i x v) := by
  unfold setH
  cases ha : obAt H i with
  | none => exact h
  | some a =>
    simp only
    split
    · exact h
    · split
      · exact h
      · split
        · exact h
        · exact h.next _ hx
theorem TSz.same {B : Nat} {H G : Hp} (h : TSz B H) (hT : G.T = H.T) : TSz B G := by unfold TSz; rw [hT]; exact h
theorem del_T (H : Hp) (i : Int) (x : ByteArray) : (delH H i x).T = H.T := by
  unfold delH
  split
  · rfl
  · split <;> rfl
theorem proto_T (H : Hp) (i q : Int) : (protoH H i q).T = H.T := by
  unfold protoH
  split
  · split
    · rfl
    · split <;> rfl
  · rfl
theorem put_T (H : Hp) (i q : Int) (v : V3) : (putH H i q v).T = H.T := by
  unfold putH
  split
  · rfl
  · split
    · rfl
    · split
      · split <;> rfl
      · rfl
theorem grow_T (H : Hp) (i q : Int) (v : V3) : (growH H i q v).T = H.T := by
  unfold growH
  split
  · rfl
  · split <;> rfl
theorem make_T (H : Hp) : (makeH H).T = H.T := by unfold makeH; split <;> rfl
theorem next_obs1 (H : Hp) (i : Int) (x : ByteArray) : (nextH H i x).obs = H.obs := (next_obs H i x).1
theorem done_sz {B : Nat} {H : Hp} {x : ActD} (h : HSz B H) (ht : TSz B H) (hx : x.name.size ≤ B) (hv : x.v.2.2.size ≤ B) (ho : ActOk x) : HSz B (doneH H x) ∧ TSz B (doneH H x) := by
  obtain ⟨_, _, _, _, h1, h2⟩ := ho
  unfold doneH
  split
  · exact ⟨h.make, ht.same (make_T H)⟩
  · split
    · exact ⟨h.set _ ⟨hx, hv, h1, h2⟩, ht.set _ _ hx⟩
    · split
      · exact ⟨h.del _ _, ht.same (del_T _ _ _)⟩
      · split
        · exact ⟨h.protoH _ _, ht.same (proto_T _ _ _)⟩
        · split
          · exact ⟨h.put0 _ _ ⟨hv, h1, h2⟩, ht.same (put_T _ _ _ _)⟩
          · split
            · exact ⟨h.grow ht _ _ ⟨hv, h1, h2⟩, ht.same (grow_T _ _ _ _)⟩
            · split
              · exact ⟨fun i o hi => h i o (by rw [next_obs1] at hi; exact hi), ht.next _ hx⟩
              · exact ⟨h, ht⟩
section
variable {M : Type} [Mem M] {w0 : World} {s : St M} {R : Value → St M → Prop} {lo p N r f : Nat} {H : Hp} {O : Nat → Prop}
set_option maxHeartbeats 16000000 in
theorem hdone0_spec (h : HpAt lo s p H N O) (hlo : lo ≤ s.next) (hz : RZ s r f) (hrO : ¬ O r ∧ ¬ O f) {x : ActD} (hx : ActOk x) (hN : N + 3 ≤ 1000000) (hN2 : 32 ≤ N)
    (hR : ∀ s' O' b, HpAt lo s' p (doneH H x) (N + 3) O' → Upd s s' O O' → R (.bool b) s') : CCalls Tryz.prog w0 10 #[.pointer (some ⟨p, 0, none⟩), .pointer (some ⟨r, 0, none⟩), .agg #[.int .i64 x.d, .int .i64 x.a, .int .i64 x.b, .string x.name, .int .i64 x.v.1, .int .i64 x.v.2.1, .string x.v.2.2]] s R := by
  obtain ⟨x0, x1, x2, x3, v1, v2, v3⟩ := x
  obtain ⟨q0, q1, q2, q3, q4⟩ := hx
  simp only [I64] at q0 q1 q2 q3 q4
  refine wfun2 hmix ok10 (l := [.pointer (some ⟨p, 0, none⟩), .pointer (some ⟨r, 0, none⟩), .agg #[.int .i64 x0, .int .i64 x1, .int .i64 x2, .string x3, .int .i64 v1, .int .i64 v2, .string v3]]) func10 rfl ntmps10 results10 (by simp) ?_
  have l1 : s.le (s.new (.cells [.int .i64 x0, .int .i64 x1, .int .i64 x2, .string x3, .int .i64 v1, .int .i64 v2, .string v3] 32 true)) := St.le_new (St.le_refl _)
  have c5 : (s.new (.cells [.int .i64 x0, .int .i64 x1, .int .i64 x2, .string x3, .int .i64 v1, .int .i64 v2, .string v3] 32 true)).at' s.next = some (.cells [.int .i64 x0, .int .i64 x1, .int .i64 x2, .string x3, .int .i64 v1, .int .i64 v2, .string v3] 32 true) := by rw [St.at_new, if_pos rfl]
  have h1 := h.le l1
  have hz1 := hz.le l1
  have hn1 : (s.new (.cells [.int .i64 x0, .int .i64 x1, .int .i64 x2, .string x3, .int .i64 v1, .int .i64 v2, .string v3] 32 true)).next = s.next + 1 := rfl
  have hOn : ¬ O s.next := fun hc => by have := (h.own _ hc).2; omega
  have hU0 : Upd s (s.new (.cells [.int .i64 x0, .int .i64 x1, .int .i64 x2, .string x3, .int .i64 v1, .int .i64 v2, .string v3] 32 true)) O O := .of_le l1
  generalize hs1 : s.new (.cells [.int .i64 x0, .int .i64 x1, .int .i64 x2, .string x3, .int .i64 v1, .int .i64 v2, .string v3] 32 true) = s1 at l1 c5 h1 hz1 hn1 hU0
  have hlo1 : lo ≤ s1.next := by omega
  have keep : ∀ {s2 : St M} {P : Nat → Prop}, Upd s1 s2 O P → RZ s2 r f ∧ s2.at' s.next = some (.cells [.int .i64 x0, .int .i64 x1, .int .i64 x2, .string x3, .int .i64 v1, .int .i64 v2, .string v3] 32 true) := fun hU =>
    ⟨hz1.same hU.next (hU.keep _ hz1.rn hrO.1) (hU.keep _ hz1.fn hrO.2), (hU.keep _ (by omega) hOn).trans c5⟩
  unfold doneH at hR
  simp only at hR
  by_cases d0 : x0 = 0
  · subst d0
    simp only [if_true] at hR
    simp -implicitDefEqProofs only [↓Zd, (Zp), if_true, if_false, ne_eq, implies_true, forall_const, Nat.reduceEqDiff, reduceIte, reduceCtorEq, Int.reduceEq, Int.reduceNeg, Int.reduceLE, Int.reduceLT, Nat.reduceAdd, Nat.reduceLeDiff, Int.reduceToNat, Nat.reduceMul, Nat.reduceBEq, okPart, Value.cells, cut, okCell, cld2, (HEx), (REx), vA, (ACx), hs1, c5, co23]
    refine hmake_spec h1 hlo1 fun s2 P hP hU => ?_
    obtain ⟨hz2, c52⟩ := keep hU
    have hmv : ∃ a b, makeV H = .tuple #[.int .i64 a, .int .i64 b] := by unfold makeV; split <;> exact ⟨_, _, rfl⟩
    obtain ⟨ma, mb, hmv⟩ := hmv
    rw [hmv]
    simp -implicitDefEqProofs only [↓Zd, (Zp), if_true, if_false, ne_eq, implies_true, forall_const, Nat.reduceEqDiff, reduceIte, reduceCtorEq, Int.reduceEq, Int.reduceNeg, Int.reduceLE, Int.reduceLT, Nat.reduceAdd, Nat.reduceLeDiff, Int.reduceToNat, Nat.reduceMul, Nat.reduceBEq, okPart, Value.cells, cut, okCell, cld2, (HEx), (REx), vA, (ACx), c52, co30]
    refine rzMake hz2 ?_
    have hend : ∀ b, R (.bool b) s2 := fun b => hR _ _ b (hP.mono (by omega)) (hU0.trans hU)
    by_cases e1 : ma = 0 <;> by_cases e2 : mb = 40
    all_goals simp -implicitDefEqProofs only [↓Zd, (Zp), if_true, if_false, ne_eq, implies_true, forall_const, Nat.reduceEqDiff, reduceIte, reduceCtorEq, Int.reduceEq, Int.reduceNeg, Int.reduceLE, Int.reduceLT, Nat.reduceAdd, Nat.reduceLeDiff, Int.reduceToNat, Nat.reduceMul, Nat.reduceBEq, okPart, Value.cells, cut, okCell, cld2, (HEx), (REx), vA, (ACx), e1, e2]
    all_goals exact hend _
  · rw [if_neg d0] at hR
    by_cases d1 : x0 = 1
    · subst d1
      simp only [if_true] at hR
      simp -implicitDefEqProofs only [↓Zd, (Zp), if_true, if_false, ne_eq, implies_true, forall_const, Nat.reduceEqDiff, reduceIte, reduceCtorEq, Int.reduceEq, Int.reduceNeg, Int.reduceLE, Int.reduceLT, Nat.reduceAdd, Nat.reduceLeDiff, Int.reduceToNat, Nat.reduceMul, Nat.reduceBEq, okPart, Value.cells, cut, okCell, cld2, (HEx), (REx), vA, (ACx), hs1, c5, ord10, co18]
      refine hset_spec (k := v1) (n := v2) (y := v3) h1 hlo1 hN hN2 q1 fun s2 P hP hU => ?_
      obtain ⟨hz2, c52⟩ := keep hU
      simp -implicitDefEqProofs only [↓Zd, (Zp), if_true, if_false, ne_eq, implies_true, forall_const, Nat.reduceEqDiff, reduceIte, reduceCtorEq, Int.reduceEq, Int.reduceNeg, Int.reduceLE, Int.reduceLT, Nat.reduceAdd, Nat.reduceLeDiff, Int.reduceToNat, Nat.reduceMul, Nat.reduceBEq, okPart, Value.cells, cut, okCell, cld2, (HEx), (REx), vA, (ACx), c52, ord10, co31]
      refine rzSet hz2 fun s3 hs3 => ?_
      have hend : ∀ b, R (.bool b) s3 := fun b => hR _ _ b (hP.le hs3) (hU0.trans (hU.trans (.of_le hs3)))
      simp -implicitDefEqProofs only [↓Zd, (Zp), if_true, if_false, ne_eq, implies_true, forall_const, Nat.reduceEqDiff, reduceIte, reduceCtorEq, Int.reduceEq, Int.reduceNeg, Int.reduceLE, Int.reduceLT, Nat.reduceAdd, Nat.reduceLeDiff, Int.reduceToNat, Nat.reduceMul, Nat.reduceBEq, okPart, Value.cells, cut, okCell, cld2, (HEx), (REx), vA, (ACx), ord10]
      exact hend _
    · rw [if_neg d1] at hR
      by_cases d2 : x0 = 2
      · subst d2
        simp only [if_true] at hR
        simp -implicitDefEqProofs only [↓Zd, (Zp), if_true, if_false, ne_eq, implies_true, forall_const, Nat.reduceEqDiff, reduceIte, reduceCtorEq, Int.reduceEq, Int.reduceNeg, Int.reduceLE, Int.reduceLT, Nat.reduceAdd, Nat.reduceLeDiff, Int.reduceToNat, Nat.reduceMul, Nat.reduceBEq, okPart, Value.cells, cut, okCell, cld2, (HEx), (REx), vA, (ACx), hs1, c5, ord10, co24]
        refine hdel_spec h1 hlo1 hN hN2 q1 fun s2 P hP hU => ?_
        obtain ⟨hz2, c52⟩ := keep hU
        simp -implicitDefEqProofs only [↓Zd, (Zp), if_true, if_false, ne_eq, implies_true, forall_const, Nat.reduceEqDiff, reduceIte, reduceCtorEq, Int.reduceEq, Int.reduceNeg, Int.reduceLE, Int.reduceLT, Nat.reduceAdd, Nat.reduceLeDiff, Int.reduceToNat, Nat.reduceMul, Nat.reduceBEq, okPart, Value.cells, cut, okCell, cld2, (HEx), (REx), vA, (ACx), c52, ord10, co32]
        refine rzDelete hz2 fun s3 hs3 => ?_
        have hend : ∀ b, R (.bool b) s3 := fun b => hR _ _ b (hP.le hs3) (hU0.trans (hU.trans (.of_le hs3)))
        simp -implicitDefEqProofs only [↓Zd, (Zp), if_true, if_false, ne_eq, implies_true, forall_const, Nat.reduceEqDiff, reduceIte, reduceCtorEq, Int.reduceEq, Int.reduceNeg, Int.reduceLE, Int.reduceLT, Nat.reduceAdd, Nat.reduceLeDiff, Int.reduceToNat, Nat.reduceMul, Nat.reduceBEq, okPart, Value.cells, cut, okCell, cld2, (HEx), (REx), vA, (ACx), ord10]
        exact hend _
      · rw [if_neg d2] at hR
        by_cases d3 : x0 = 3
        · subst d3
          simp only [if_true] at hR
          simp -implicitDefEqProofs only [↓Zd, (Zp), if_true, if_false, ne_eq, implies_true, forall_const, Nat.reduceEqDiff, reduceIte, reduceCtorEq, Int.reduceEq, Int.reduceNeg, Int.reduceLE, Int.reduceLT, Nat.reduceAdd, Nat.reduceLeDiff, Int.reduceToNat, Nat.reduceMul, Nat.reduceBEq, okPart, Value.cells, cut, okCell, cld2, (HEx), (REx), vA, (ACx), hs1, c5, ord10, co25]
          refine hsetproto_spec h1 hlo1 hN hN2 q1 q2 fun s2 P hP hU => ?_
          obtain ⟨hz2, c52⟩ := keep hU
          simp -implicitDefEqProofs only [↓Zd, (Zp), if_true, if_false, ne_eq, implies_true, forall_const, Nat.reduceEqDiff, reduceIte, reduceCtorEq, Int.reduceEq, Int.reduceNeg, Int.reduceLE, Int.reduceLT, Nat.reduceAdd, Nat.reduceLeDiff, Int.reduceToNat, Nat.reduceMul, Nat.reduceBEq, okPart, Value.cells, cut, okCell, cld2, (HEx), (REx), vA, (ACx), c52, ord10, co33]
          refine rzProto hz2 ?_
          have hend : ∀ b, R (.bool b) s2 := fun b => hR _ _ b hP (hU0.trans hU)
          simp -implicitDefEqProofs only [↓Zd, (Zp), if_true, if_false, ne_eq, implies_true, forall_const, Nat.reduceEqDiff, reduceIte, reduceCtorEq, Int.reduceEq, Int.reduceNeg, Int.reduceLE, Int.reduceLT, Nat.reduceAdd, Nat.reduceLeDiff, Int.reduceToNat, Nat.reduceMul, Nat.reduceBEq, okPart, Value.cells, cut, okCell, cld2, (HEx), (REx), vA, (ACx), ord10]
          exact hend _
        · rw [if_neg d3] at hR
          by_cases d4 : x0 = 4
          · subst d4
            simp only [if_true] at hR
            simp -implicitDefEqProofs only [↓Zd, (Zp), if_true, if_false, ne_eq, implies_true, forall_const, Nat.reduceEqDiff, reduceIte, reduceCtorEq, Int.reduceEq, Int.reduceNeg, Int.reduceLE, Int.reduceLT, Nat.reduceAdd, Nat.reduceLeDiff, Int.reduceToNat, Nat.reduceMul, Nat.reduceBEq, okPart, Value.cells, cut, okCell, cld2, (HEx), (REx), vA, (ACx), hs1, c5, ord10, co34]
            refine hput_spec (k := v1) (n := v2) (y := v3) h1 q1 q2 fun s2 P hP hU => ?_
            obtain ⟨hz2, c52⟩ := keep hU
            simp -implicitDefEqProofs only [↓Zd, (Zp), if_true, if_false, ne_eq, implies_true, forall_const, Nat.reduceEqDiff, reduceIte, reduceCtorEq, Int.reduceEq, Int.reduceNeg, Int.reduceLE, Int.reduceLT, Nat.reduceAdd, Nat.reduceLeDiff, Int.reduceToNat, Nat.reduceMul, Nat.reduceBEq, okPart, Value.cells, cut, okCell, cld2, (HEx), (REx), vA, (ACx), c52, ord10, co35]
            refine rzPut hz2 fun s3 hs3 => ?_
            have hend : ∀ b, R (.bool b) s3 := fun b => hR _ _ b ((hP.le hs3).mono (by omega)) (hU0.trans (hU.trans (.of_le hs3)))
            simp -implicitDefEqProofs only [↓Zd, (Zp), if_true, if_false, ne_eq, implies_true, forall_const, Nat.reduceEqDiff, reduceIte, reduceCtorEq, Int.reduceEq, Int.reduceNeg, Int.reduceLE, Int.reduceLT, Nat.reduceAdd, Nat.reduceLeDiff, Int.reduceToNat, Nat.reduceMul, Nat.reduceBEq, okPart, Value.cells, cut, okCell, cld2, (HEx), (REx), vA, (ACx), ord10]
            exact hend _
          · rw [if_neg d4] at hR
            by_cases d5 : x0 = 5
            · subst d5
              simp only [if_true] at hR
              simp -implicitDefEqProofs only [↓Zd, (Zp), if_true, if_false, ne_eq, implies_true, forall_const, Nat.reduceEqDiff, reduceIte, reduceCtorEq, Int.reduceEq, Int.reduceNeg, Int.reduceLE, Int.reduceLT, Nat.reduceAdd, Nat.reduceLeDiff, Int.reduceToNat, Nat.reduceMul, Nat.reduceBEq, okPart, Value.cells, cut, okCell, cld2, (HEx), (REx), vA, (ACx), hs1, c5, ord10, co36]
              refine hgrow_spec (k := v1) (n := v2) (y := v3) h1 hlo1 hN q1 q2 fun s2 P hP hU => ?_
              obtain ⟨hz2, c52⟩ := keep hU
              simp -implicitDefEqProofs only [↓Zd, (Zp), if_true, if_false, ne_eq, implies_true, forall_const, Nat.reduceEqDiff, reduceIte, reduceCtorEq, Int.reduceEq, Int.reduceNeg, Int.reduceLE, Int.reduceLT, Nat.reduceAdd, Nat.reduceLeDiff, Int.reduceToNat, Nat.reduceMul, Nat.reduceBEq, okPart, Value.cells, cut, okCell, cld2, (HEx), (REx), vA, (ACx), c52, ord10, co37]
              refine rzGrow hz2 fun s3 hs3 => ?_
              have hend : ∀ b, R (.bool b) s3 := fun b => hR _ _ b (hP.le hs3) (hU0.trans (hU.trans (.of_le hs3)))
              simp -implicitDefEqProofs only [↓Zd, (Zp), if_true, if_false, ne_eq, implies_true, forall_const, Nat.reduceEqDiff, reduceIte, reduceCtorEq, Int.reduceEq, Int.reduceNeg, Int.reduceLE, Int.reduceLT, Nat.reduceAdd, Nat.reduceLeDiff, Int.reduceToNat, Nat.reduceMul, Nat.reduceBEq, okPart, Value.cells, cut, okCell, cld2, (HEx), (REx), vA, (ACx), ord10]
              exact hend _
            · rw [if_neg d5] at hR
              obtain ⟨hpro, tg, pf, pn, sl, bs, hi⟩ := h1
              by_cases d6 : x0 = 6
              · subst d6
                simp only [if_true] at hR
                simp -implicitDefEqProofs only [↓Zd, (Zp), if_true, if_false, ne_eq, implies_true, forall_const, Nat.reduceEqDiff, reduceIte, reduceCtorEq, Int.reduceEq, Int.reduceNeg, Int.reduceLE, Int.reduceLT, Nat.reduceAdd, Nat.reduceLeDiff, Int.reduceToNat, Nat.reduceMul, Nat.reduceBEq, okPart, Value.cells, cut, okCell, cld2, (HEx), (REx), vA, (ACx), hs1, c5, ord10, co38]
                refine hnext_spec hi hlo1 (by omega) q2 fun s2 P tg2 hP hU _ => ?_
                obtain ⟨hz2, c52⟩ := keep hU
                simp -implicitDefEqProofs only [↓Zd, (Zp), if_true, if_false, ne_eq, implies_true, forall_const, Nat.reduceEqDiff, reduceIte, reduceCtorEq, Int.reduceEq, Int.reduceNeg, Int.reduceLE, Int.reduceLT, Nat.reduceAdd, Nat.reduceLeDiff, Int.reduceToNat, Nat.reduceMul, Nat.reduceBEq, okPart, Value.cells, cut, okCell, cld2, (HEx), (REx), vA, (ACx), c52, ord10, co39]
                refine rzNext hz2 ?_
                have hend : ∀ b, R (.bool b) s2 := fun b => hR _ _ b ⟨next_pro hpro _ _, _, _, _, _, _, hP.mono (by omega)⟩ (hU0.trans hU)
                simp -implicitDefEqProofs only [↓Zd, (Zp), if_true, if_false, ne_eq, implies_true, forall_const, Nat.reduceEqDiff, reduceIte, reduceCtorEq, Int.reduceEq, Int.reduceNeg, Int.reduceLE, Int.reduceLT, Nat.reduceAdd, Nat.reduceLeDiff, Int.reduceToNat, Nat.reduceMul, Nat.reduceBEq, okPart, Value.cells, cut, okCell, cld2, (HEx), (REx), vA, (ACx), ord10]
                exact hend _
              · rw [if_neg d6] at hR
                simp -implicitDefEqProofs only [↓Zd, (Zp), if_true, if_false, ne_eq, implies_true, forall_const, Nat.reduceEqDiff, reduceIte, reduceCtorEq, Int.reduceEq, Int.reduceNeg, Int.reduceLE, Int.reduceLT, Nat.reduceAdd, Nat.reduceLeDiff, Int.reduceToNat, Nat.reduceMul, Nat.reduceBEq, okPart, Value.cells, cut, okCell, cld2, (HEx), (REx), vA, (ACx), hs1, c5, d0, d1, d2, d3, d4, d5, d6, ord10, co15]
                refine hget_spec hi q1 fun s2 w hs2 _ => ?_
                obtain ⟨hz2, c52⟩ := keep (.of_le hs2)
                obtain ⟨w1, w2, w3⟩ := w
                simp only [vOf, vA]
                simp -implicitDefEqProofs only [↓Zd, (Zp), if_true, if_false, ne_eq, implies_true, forall_const, Nat.reduceEqDiff, reduceIte, reduceCtorEq, Int.reduceEq, Int.reduceNeg, Int.reduceLE, Int.reduceLT, Nat.reduceAdd, Nat.reduceLeDiff, Int.reduceToNat, Nat.reduceMul, Nat.reduceBEq, okPart, Value.cells, cut, okCell, cld2, (HEx), (REx), vA, (ACx), c52, ord10, co40]
                refine rzGet hz2 fun s3 hs3 => ?_
                have hend : ∀ b, R (.bool b) s3 := fun b => hR _ _ b ⟨hpro, _, _, _, _, _, ((hi.le hs2).le hs3).mono (by omega)⟩ (hU0.trans (.of_le (St.le_trans hs2 hs3)))
                simp -implicitDefEqProofs only [↓Zd, (Zp), if_true, if_false, ne_eq, implies_true, forall_const, Nat.reduceEqDiff, reduceIte, reduceCtorEq, Int.reduceEq, Int.reduceNeg, Int.reduceLE, Int.reduceLT, Nat.reduceAdd, Nat.reduceLeDiff, Int.reduceToNat, Nat.reduceMul, Nat.reduceBEq, okPart, Value.cells, cut, okCell, cld2, (HEx), (REx), vA, (ACx), Vsame, ord10]
                exact hend _
end
end Go.Proofs.Tryz
