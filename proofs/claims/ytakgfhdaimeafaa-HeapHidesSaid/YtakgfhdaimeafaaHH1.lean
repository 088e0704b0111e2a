/- Heaps that differ in shapes alone: the walk of the law on them. A lemma file: no statement of its own. -/
import Derived.Test.YtakgfhdaimeafaaFwF
import Derived.Test.YtakgfhdaimeafaaHH0
import Derived.Test.YtakgfhdaimeafaaRowA12
import Derived.Test.YtakgfhdaimeafaaVEq
import Derived.Test.YtakgfhdaimeafaaHeap0
import Derived.Test.YtakgfhdaimeafaaW12
set_option linter.unusedSimpArgs false
set_option linter.unusedVariables false
set_option linter.unusedSectionVars false
namespace Go.Proofs.Try
open Go.Cs
open Go.RowKit (Below)
set_option maxRecDepth 100000
attribute [local irreducible] CCalls WLoop WScope CRound WRange

section
variable {M : Type} [Mem M] {w0 : World} {s : St M} {R : Value → St M → Prop} {lo p N : Nat} {H : Hp} {O : Nat → Prop}

theorem ObAt.low {lo lo' b : Nat} {o : Ob} {O : Nat → Prop} (h : ObAt lo s N b o O) (hl : lo' ≤ lo) : ObAt lo' s N b o O := by
  obtain ⟨h1, h2, h3, h4⟩ := h
  refine ⟨fun c hc => ⟨by have := (h1 c hc).1; omega, (h1 c hc).2⟩, h2, h3, ?_⟩
  rcases h4 with ⟨h5, pd, OD, h6, h7, h8⟩ | h4
  · exact .inl ⟨h5, pd, OD, h6, h7.low hl, h8⟩
  · exact .inr h4
theorem HpAt.low {lo lo' : Nat} (h : HpAt lo s p H N O) (hl : lo' ≤ lo) : HpAt lo' s p H N O := by
  obtain ⟨hp, tg, pf, pn, sl, bs, h⟩ := h
  exact ⟨hp, tg, pf, pn, sl, bs, fun b hb => ⟨by have := (h.own b hb).1; omega, (h.own b hb).2⟩, h.ok, h.tn, h.pin, h.bl, h.row, h.rowO, h.fo.low hl, h.ta.low hl, h.len, fun i b o h1 h2 => (h.obj i b o h1 h2).low hl⟩

/-- What another heap does leaves this one. -/
theorem HpAt.other {s' : St M} {O1 O1' : Nat → Prop} (h : HpAt lo s p H N O) (hU : Upd s s' O1 O1') (hd : ∀ b, O1 b → ¬ O b) : HpAt lo s' p H N O ∧ ∀ b, O1' b → ¬ O b := by
  refine ⟨h.same hU.next fun c hc => hU.keep c (h.own c hc).2 fun h1 => hd c h1 hc, fun b hb hO => ?_⟩
  rcases hU.own b hb with h1 | h1
  · exact hd b h1 hO
  · have := (h.own b hO).2; omega

theorem wrap_u8i {a : Int} (h : 0 ≤ a ∧ a ≤ 255) : IntKind.i64.wrap a = a := wrap_i64 (by omega)

/-- Two heaps that differ in shapes alone. -/
structure TwoAt (n0 : Nat) (s0 s : St M) (p1 p2 : Nat) (H G : Hp) (N : Nat) (O1 O2 : Nat → Prop) : Prop where
  one : HpAt n0 s p1 H N O1
  two : HpAt n0 s p2 G N O2
  apart : ∀ b, O1 b → ¬ O2 b
  lo : n0 ≤ s.next
  old : ∀ c, c < n0 → s.at' c = s0.at' c
  sim : Sim H G
  sz : HSz 1000000 H

theorem TwoAt.le {n0 : Nat} {s0 s s' : St M} {p1 p2 : Nat} {H G : Hp} {N : Nat} {O1 O2 : Nat → Prop} (h : TwoAt n0 s0 s p1 p2 H G N O1 O2) (hs : s.le s') : TwoAt n0 s0 s' p1 p2 H G N O1 O2 :=
  ⟨h.one.le hs, h.two.le hs, h.apart, by have := h.lo; have := hs.1; omega, fun c hc => by rw [hs.2 c (by have := h.lo; omega)]; exact h.old c hc, h.sim, h.sz⟩

/-- What is behind a change of both. -/
theorem TwoAt.step {n0 : Nat} {s0 s s1 s2 : St M} {p1 p2 : Nat} {H G H' G' : Hp} {N N' : Nat} {O1 O2 O1' O2' : Nat → Prop} (h : TwoAt n0 s0 s p1 p2 H G N O1 O2) (h1 : HpAt n0 s1 p1 H' N' O1') (hU1 : Upd s s1 O1 O1') (h2 : HpAt n0 s2 p2 G' N' O2') (hU2 : Upd s1 s2 O2 O2') (hsim : Sim H' G') (hsz : HSz 1000000 H') :
    TwoAt n0 s0 s2 p1 p2 H' G' N' O1' O2' := by
  obtain ⟨g2, d2⟩ := h.two.other hU1 h.apart
  obtain ⟨g1, d1⟩ := h1.other hU2 (fun b hb h1b => d2 b h1b hb)
  have hn1 := hU1.next
  have hn2 := hU2.next
  have hlo := h.lo
  refine ⟨g1, h2, fun b hb hb2 => d1 b hb2 hb, by omega, fun c hc => ?_, hsim, hsz⟩
  rw [hU2.keep c (by omega) (fun hb => by have := (h.two.own c hb).1; omega), hU1.keep c (by omega) (fun hb => by have := (h.one.own c hb).1; omega)]
  exact h.old c hc

theorem sim_sz {B : Nat} {H G : Hp} (h : Sim H G) (hs : HSz B H) : HSz B G := fun i o ho p hp => by
  have hH : H.obs[i]? = some (H.obs[i]'(by have := (List.getElem?_eq_some_iff.1 ho).1; rw [h.len]; exact this)) := List.getElem?_eq_getElem _
  obtain ⟨h1, _⟩ := h.obs i _ o hH ho
  rw [← h1] at hp
  exact hs i _ hH p hp

set_option maxHeartbeats 16000000 in
theorem heapHides_spec {few many : Int} {A : List ActD} {ad : Option Addr} {cp : Nat} (hf : 0 ≤ few ∧ few ≤ 255) (hm : 0 ≤ many ∧ many ≤ 255) (hA : QRow 30 actC s ad A) (hok : ∀ a ∈ A, ActOk a) (hAl : A.length ≤ 9223372036854775807)
    (hR : ∀ s', R (.bool true) s') : CCalls Try.prog w0 3 #[.int .u8 few, .int .u8 many, .slice ad A.length cp] s R := by
  refine wfun2 hmix ok3 (l := [.int .u8 few, .int .u8 many, .slice ad A.length cp]) func3 rfl ntmps3 results3 (by simp) ?_
  have hbL : cbuild Try.prog 24 #[(0, .int .i64 20), (2, .int .i64 10)] = some (.agg #[.int .i64 20, .int .i64 0, .int .i64 10, .int .i64 0]) := by kernel_rfl
  simp -implicitDefEqProofs only [↓Zd, (Zp), if_true, if_false, ne_eq, implies_true, forall_const, Nat.reduceEqDiff, reduceIte, reduceCtorEq, Int.reduceEq, Int.reduceNeg, Int.reduceLE, Int.reduceLT, Nat.reduceAdd, Nat.reduceLeDiff, Int.reduceToNat, Nat.reduceMul, Nat.reduceBEq, okPart, Value.cells, cut, okCell, cld2, (HEx), vA, List.getElem?_cons_succ, List.getElem?_cons_zero, Int.toNat_natCast, Nat.zero_add, underlying30, is30, ag30, ce30, fa30x0, fa30x1, fa30x2, fa30x3, fa30x4, underlying5, sz5, is5, ce5, ag5, ze5, underlying24, sz24, is24, ce24, ag24, ze24, fa24x0, fa24x1, fa24x2, fa24x3, hbL, wrap_u8i hf, wrap_u8i hm, co5]
  refine hnew_spec fun s1 p1 hH1 hs1 => ?_
  have hn1 := hs1.1
  simp only [St.next_new, St.next_put] at hn1
  have c7 : s1.at' s.next = some (.cells [.int .i64 20, .int .i64 0, .int .i64 10, .int .i64 0] 24 true) := by rw [hs1.2 _ (by simp only [St.next_put, St.next_new]; omega)]; first | rw [St.at_put, if_pos rfl] | rw [St.at_new, if_pos rfl]
  simp -implicitDefEqProofs only [↓Zd, (Zp), if_true, if_false, ne_eq, implies_true, forall_const, Nat.reduceEqDiff, reduceIte, reduceCtorEq, Int.reduceEq, Int.reduceNeg, Int.reduceLE, Int.reduceLT, Nat.reduceAdd, Nat.reduceLeDiff, Int.reduceToNat, Nat.reduceMul, Nat.reduceBEq, okPart, Value.cells, cut, okCell, cld2, (HEx), vA, List.getElem?_cons_succ, List.getElem?_cons_zero, Int.toNat_natCast, Nat.zero_add, underlying30, is30, ag30, ce30, fa30x0, fa30x1, fa30x2, fa30x3, fa30x4, underlying5, sz5, is5, ce5, ag5, ze5, underlying24, sz24, is24, ce24, ag24, ze24, fa24x0, fa24x1, fa24x2, fa24x3, hbL, c7, wrap_u8i hf, wrap_u8i hm, co5]
  refine hnew_spec fun s2 p2 hH2 hs2 => ?_
  have hn2 := hs2.1
  simp -implicitDefEqProofs only [↓Zd, (Zp), if_true, if_false, ne_eq, implies_true, forall_const, Nat.reduceEqDiff, reduceIte, reduceCtorEq, Int.reduceEq, Int.reduceNeg, Int.reduceLE, Int.reduceLT, Nat.reduceAdd, Nat.reduceLeDiff, Int.reduceToNat, Nat.reduceMul, Nat.reduceBEq, okPart, Value.cells, cut, okCell, cld2, (HEx), vA, List.getElem?_cons_succ, List.getElem?_cons_zero, Int.toNat_natCast, Nat.zero_add, underlying30, is30, ag30, ce30, fa30x0, fa30x1, fa30x2, fa30x3, fa30x4]
  have hT0 : TwoAt s.next s s2 p1 p2 (newH 20 10 few) (newH 20 10 many) 32 (fun b => (s.new (.cells [.int .i64 20, .int .i64 0, .int .i64 10, .int .i64 0] 24 true)).next ≤ b ∧ b < s1.next) (fun b => s1.next ≤ b ∧ b < s2.next) := by
    refine ⟨((hH1.mono (Nat.zero_le _)).low (by simp only [St.next_new, St.next_put]; omega)).le hs2, (hH2.mono (Nat.zero_le _)).low (by omega), fun b h1 h2 => by omega, by omega, fun c hc => ?_, .new _ _ _ _, .new _ _ _ _⟩
    rw [hs2.2 c (by omega), hs1.2 c (by simp only [St.next_put, St.next_new]; omega)]
    first | rw [St.at_put, if_neg (by omega), St.at_new, if_neg (by omega)] | rw [St.at_new, if_neg (by omega)]
  refine wloop_fix hmix [10, 11, 12, 13, 14, 15, 16, 26, 27, 28, 29, 30, 31, 32, 33, 34, 35, 36, 37, 38, 39, 40, 41, 42, 43, 44, 45, 46, 47, 48, 49, 50, 51, 52, 53, 54, 55, 56, 57, 58, 59, 60, 61, 62, 63, 64, 65, 66, 67, 68, 69, 70, 71, 72, 73, 74, 75, 76, 77, 78, 79, 80, 81, 82, 83, 84, 85, 86, 87, 88, 89, 90, 91, 92, 93, 94, 95, 96, 97, 98, 99, 100, 101, 102, 103, 104, 105, 106, 107, 108, 109, 110, 111, 112, 113, 114, 115, 116, 117, 118, 119, 120, 121, 122, 123, 124, 125, 126, 127, 128, 129, 130, 131, 132, 133, 134, 135, 136, 137, 138, 139, 140, 141, 142, 143, 144, 145, 146] (fun fuel env s3 => ∃ (k : Nat) (H G : Hp) (O1 O2 : Nat → Prop), fuel = 61 - k ∧ k ≤ 60 ∧ env 10 = .int .i64 (k : Int) ∧ TwoAt s.next s s3 p1 p2 H G (32 + 3 * k) O1 O2) 61 ⟨0, _, _, _, _, rfl, by omega, rfl, hT0⟩ ?_
  rintro fuel env s3 hFx ⟨k, H, G, O1, O2, rfl, hk, e10, hT⟩
  have e2 : env 2 = .slice ad A.length cp := by rw [hFx 2 rfl]; rfl
  have e8 : env 8 = .pointer (some ⟨p1, 0, none⟩) := by rw [hFx 8 rfl]; rfl
  have e9 : env 9 = .pointer (some ⟨p2, 0, none⟩) := by rw [hFx 9 rfl]; rfl
  by_cases k1 : (k : Int) < (A.length : Int)
  · by_cases k2 : (k : Int) < 60
    · have hkA : k < A.length := by omega
      have hx : A[k]? = some A[k] := by simp [hkA]
      have hxok := hok _ (List.mem_of_getElem? hx)
      generalize A[k] = x at hx hxok
      rcases hA with rfl | ⟨j, us, rfl, hj, hjb, hus⟩
      · simp at hkA
      have hux : us[k]? = some x := by rw [hus k hkA]; exact hx
      obtain ⟨c1, c2⟩ := acts_cut us k x hux
      have hjb3 : s3.at' j = some (.cells (us.flatMap actC) 30 false) := by rw [hT.old j hj]; exact hjb
      have hkk : (0 : Int) ≤ (k : Int) ∧ (k : Int) < (A.length : Int) := by omega
      have hz30 := ze30
      have hjn : ¬ j = s3.next := by have := hT.lo; omega
      have w1 : IntKind.i64.wrap ((k : Int) + 1) = ((k + 1 : Nat) : Int) := by rw [wrap_i64 (by omega)]; omega
      obtain ⟨x0, x1, x2, x3, v1, v2, v3⟩ := x
      have c2 : List.take 7 (List.drop (k * 7) (us.flatMap actC)) = [.int .i64 x0, .int .i64 x1, .int .i64 x2, .string x3, .int .i64 v1, .int .i64 v2, .string v3] := c2
      simp -implicitDefEqProofs only [↓Zd, (Zp), if_true, if_false, ne_eq, implies_true, forall_const, Nat.reduceEqDiff, reduceIte, reduceCtorEq, Int.reduceEq, Int.reduceNeg, Int.reduceLE, Int.reduceLT, Nat.reduceAdd, Nat.reduceLeDiff, Int.reduceToNat, Nat.reduceMul, Nat.reduceBEq, okPart, Value.cells, cut, okCell, cld2, (HEx), vA, List.getElem?_cons_succ, List.getElem?_cons_zero, Int.toNat_natCast, Nat.zero_add, underlying30, is30, ag30, ce30, fa30x0, fa30x1, fa30x2, fa30x3, fa30x4, hz30, underlying22, sz22, is22, ce22, ag22, ze22, underlying30, sz30, is30, ce30, ag30, ze30, fa30x0, fa30x1, fa30x2, fa30x3, fa30x4, e2, e8, e9, e10, k1, k2, hkk, hjb3, hjn, c1, c2, co6]
      refine long12_spec ?_
      obtain ⟨q0, q1, q2, q3, q4⟩ := hxok
      simp only [I64] at q0 q1 q2 q3 q4
      have hTn := hT.lo
      have l5 : s3.le (((s3.new (.cells [.int .i64 0, .int .i64 0, .int .i64 0, .string ⟨#[]⟩, .int .i64 0, .int .i64 0, .string ⟨#[]⟩] 30 true)).put s3.next (.cells [.int .i64 x0, .int .i64 x1, .int .i64 x2, .string x3, .int .i64 v1, .int .i64 v2, .string v3] 30 true)).new (.cells [.int .i64 x0, .int .i64 x1, .int .i64 x2, .string x3, .int .i64 v1, .int .i64 v2, .string v3] 30 true)) := St.le_new (St.le_put (St.le_new (St.le_refl _)) (Nat.le_refl _))
      have c11 : (((s3.new (.cells [.int .i64 0, .int .i64 0, .int .i64 0, .string ⟨#[]⟩, .int .i64 0, .int .i64 0, .string ⟨#[]⟩] 30 true)).put s3.next (.cells [.int .i64 x0, .int .i64 x1, .int .i64 x2, .string x3, .int .i64 v1, .int .i64 v2, .string v3] 30 true)).new (.cells [.int .i64 x0, .int .i64 x1, .int .i64 x2, .string x3, .int .i64 v1, .int .i64 v2, .string v3] 30 true)).at' s3.next = some (.cells [.int .i64 x0, .int .i64 x1, .int .i64 x2, .string x3, .int .i64 v1, .int .i64 v2, .string v3] 30 true) := by
        rw [St.at_new, if_neg (by simp only [St.next_put, St.next_new]; omega), St.at_put, if_pos rfl]
      have n5 : (((s3.new (.cells [.int .i64 0, .int .i64 0, .int .i64 0, .string ⟨#[]⟩, .int .i64 0, .int .i64 0, .string ⟨#[]⟩] 30 true)).put s3.next (.cells [.int .i64 x0, .int .i64 x1, .int .i64 x2, .string x3, .int .i64 v1, .int .i64 v2, .string v3] 30 true)).new (.cells [.int .i64 x0, .int .i64 x1, .int .i64 x2, .string x3, .int .i64 v1, .int .i64 v2, .string v3] 30 true)).next = s3.next + 2 := rfl
      generalize (((s3.new (.cells [.int .i64 0, .int .i64 0, .int .i64 0, .string ⟨#[]⟩, .int .i64 0, .int .i64 0, .string ⟨#[]⟩] 30 true)).put s3.next (.cells [.int .i64 x0, .int .i64 x1, .int .i64 x2, .string x3, .int .i64 v1, .int .i64 v2, .string v3] 30 true)).new (.cells [.int .i64 x0, .int .i64 x1, .int .i64 x2, .string x3, .int .i64 v1, .int .i64 v2, .string v3] 30 true)) = s5 at l5 c11 n5 ⊢
      have hT5 := hT.le l5
      by_cases hl : (decide ((300 : Int) < x3.size) || decide ((300 : Int) < v3.size)) = true
      · rw [hl]
        simp -implicitDefEqProofs only [↓Zd, (Zp), if_true, if_false, ne_eq, implies_true, forall_const, Nat.reduceEqDiff, reduceIte, reduceCtorEq, Int.reduceEq, Int.reduceNeg, Int.reduceLE, Int.reduceLT, Nat.reduceAdd, Nat.reduceLeDiff, Int.reduceToNat, Nat.reduceMul, Nat.reduceBEq, okPart, Value.cells, cut, okCell, cld2, (HEx), vA, List.getElem?_cons_succ, List.getElem?_cons_zero, Int.toNat_natCast, Nat.zero_add, underlying30, is30, ag30, ce30, fa30x0, fa30x1, fa30x2, fa30x3, fa30x4, co7]
        refine works12_spec ?_
        simp -implicitDefEqProofs only [↓Zd, (Zp), if_true, if_false, ne_eq, implies_true, forall_const, Nat.reduceEqDiff, reduceIte, reduceCtorEq, Int.reduceEq, Int.reduceNeg, Int.reduceLE, Int.reduceLT, Nat.reduceAdd, Nat.reduceLeDiff, Int.reduceToNat, Nat.reduceMul, Nat.reduceBEq, okPart, Value.cells, cut, okCell, cld2, (HEx), vA, List.getElem?_cons_succ, List.getElem?_cons_zero, Int.toNat_natCast, Nat.zero_add]
        exact hR _
      · rw [Bool.eq_false_iff.2 hl]
        have hl2 : x3.size ≤ 300 ∧ v3.size ≤ 300 := by
          simp only [Bool.or_eq_true, decide_eq_true_eq, not_or] at hl
          omega
        have hpsz : PSz 1000000 (x3, (v1, v2, v3)) := ⟨by show x3.size ≤ _; omega, by show v3.size ≤ _; omega, q4⟩
        have hO1e : ∀ c, O1 c → c < s3.next := fun c hc => (hT.one.own c hc).2
        have hO2e : ∀ c, O2 c → c < s3.next := fun c hc => (hT.two.own c hc).2
        by_cases d0 : x0 = 0
        · subst d0
          simp -implicitDefEqProofs only [↓Zd, (Zp), if_true, if_false, ne_eq, implies_true, forall_const, Nat.reduceEqDiff, reduceIte, reduceCtorEq, Int.reduceEq, Int.reduceNeg, Int.reduceLE, Int.reduceLT, Nat.reduceAdd, Nat.reduceLeDiff, Int.reduceToNat, Nat.reduceMul, Nat.reduceBEq, okPart, Value.cells, cut, okCell, cld2, (HEx), vA, List.getElem?_cons_succ, List.getElem?_cons_zero, Int.toNat_natCast, Nat.zero_add, underlying30, is30, ag30, ce30, fa30x0, fa30x1, fa30x2, fa30x3, fa30x4, c11, e8, e9, underlying34, sz34, is34, ce34, ag34, co8]
          refine hmake_spec hT5.one hT5.lo fun s6 P1 hP1 hU1 => ?_
          have hn6 := hU1.next
          obtain ⟨g2, d2⟩ := hT5.two.other hU1 hT5.apart
          have hmv : ∃ a b, makeV H = .tuple #[.int .i64 a, .int .i64 b] := by unfold makeV; split <;> exact ⟨_, _, rfl⟩
          have hmg : makeV G = makeV H := hT.sim.makeV.symm
          obtain ⟨ma, mb, hmv⟩ := hmv
          rw [hmv]
          simp -implicitDefEqProofs only [↓Zd, (Zp), if_true, if_false, ne_eq, implies_true, forall_const, Nat.reduceEqDiff, reduceIte, reduceCtorEq, Int.reduceEq, Int.reduceNeg, Int.reduceLE, Int.reduceLT, Nat.reduceAdd, Nat.reduceLeDiff, Int.reduceToNat, Nat.reduceMul, Nat.reduceBEq, okPart, Value.cells, cut, okCell, cld2, (HEx), vA, List.getElem?_cons_succ, List.getElem?_cons_zero, Int.toNat_natCast, Nat.zero_add, underlying30, is30, ag30, ce30, fa30x0, fa30x1, fa30x2, fa30x3, fa30x4, c11, e8, e9, underlying34, sz34, is34, ce34, ag34, co8]
          refine hmake_spec g2 (by have := hT5.lo; omega) fun s7 P2 hP2 hU2 => ?_
          rw [hmg, hmv]
          have hT7 := hT5.step hP1 hU1 hP2 hU2 hT.sim.make hT.sz.make
          simp -implicitDefEqProofs only [↓Zd, (Zp), if_true, if_false, ne_eq, implies_true, forall_const, Nat.reduceEqDiff, reduceIte, reduceCtorEq, Int.reduceEq, Int.reduceNeg, Int.reduceLE, Int.reduceLT, Nat.reduceAdd, Nat.reduceLeDiff, Int.reduceToNat, Nat.reduceMul, Nat.reduceBEq, okPart, Value.cells, cut, okCell, cld2, (HEx), vA, List.getElem?_cons_succ, List.getElem?_cons_zero, Int.toNat_natCast, Nat.zero_add, underlying30, is30, ag30, ce30, fa30x0, fa30x1, fa30x2, fa30x3, fa30x4, c11, e8, e9, underlying34, sz34, is34, ce34, ag34, decide_true]
          have hT8 : TwoAt s.next s s7 p1 p2 (makeH H) (makeH G) (32 + 3 * k + 3) P1 P2 := ⟨hT7.one.mono (by omega), hT7.two.mono (by omega), hT7.apart, hT7.lo, hT7.old, hT7.sim, hT7.sz⟩
          simp -implicitDefEqProofs only [↓Zd, (Zp), if_true, if_false, ne_eq, implies_true, forall_const, Nat.reduceEqDiff, reduceIte, reduceCtorEq, Int.reduceEq, Int.reduceNeg, Int.reduceLE, Int.reduceLT, Nat.reduceAdd, Nat.reduceLeDiff, Int.reduceToNat, Nat.reduceMul, Nat.reduceBEq, okPart, Value.cells, cut, okCell, cld2, (HEx), vA, List.getElem?_cons_succ, List.getElem?_cons_zero, Int.toNat_natCast, Nat.zero_add, underlying30, is30, ag30, ce30, fa30x0, fa30x1, fa30x2, fa30x3, fa30x4, e8, e9, co14]
          refine hdump_spec hT8.one (by omega) hT8.sz fun s8 hs8 => ?_
          simp -implicitDefEqProofs only [↓Zd, (Zp), if_true, if_false, ne_eq, implies_true, forall_const, Nat.reduceEqDiff, reduceIte, reduceCtorEq, Int.reduceEq, Int.reduceNeg, Int.reduceLE, Int.reduceLT, Nat.reduceAdd, Nat.reduceLeDiff, Int.reduceToNat, Nat.reduceMul, Nat.reduceBEq, okPart, Value.cells, cut, okCell, cld2, (HEx), vA, List.getElem?_cons_succ, List.getElem?_cons_zero, Int.toNat_natCast, Nat.zero_add, underlying30, is30, ag30, ce30, fa30x0, fa30x1, fa30x2, fa30x3, fa30x4, e8, e9, co14]
          refine hdump_spec (hT8.le hs8).two (by omega) (sim_sz hT8.sim hT8.sz) fun s9 hs9 => ?_
          rw [hT8.sim.dump]
          simp -implicitDefEqProofs only [↓Zd, (Zp), if_true, if_false, ne_eq, implies_true, forall_const, Nat.reduceEqDiff, reduceIte, reduceCtorEq, Int.reduceEq, Int.reduceNeg, Int.reduceLE, Int.reduceLT, Nat.reduceAdd, Nat.reduceLeDiff, Int.reduceToNat, Nat.reduceMul, Nat.reduceBEq, okPart, Value.cells, cut, okCell, cld2, (HEx), vA, List.getElem?_cons_succ, List.getElem?_cons_zero, Int.toNat_natCast, Nat.zero_add, underlying30, is30, ag30, ce30, fa30x0, fa30x1, fa30x2, fa30x3, fa30x4, e8, e9, e10, w1, decide_true]
          refine ⟨by repeat (first | exact hFx | refine Fix.upd (by decide) ?_), 61 - (k + 1), by omega, k + 1, _, _, P1, P2, rfl, by omega, rfl, (hT8.le hs8).le hs9⟩
        · by_cases d1 : x0 = 1
          · subst d1
            simp -implicitDefEqProofs only [↓Zd, (Zp), if_true, if_false, ne_eq, implies_true, forall_const, Nat.reduceEqDiff, reduceIte, reduceCtorEq, Int.reduceEq, Int.reduceNeg, Int.reduceLE, Int.reduceLT, Nat.reduceAdd, Nat.reduceLeDiff, Int.reduceToNat, Nat.reduceMul, Nat.reduceBEq, okPart, Value.cells, cut, okCell, cld2, (HEx), vA, List.getElem?_cons_succ, List.getElem?_cons_zero, Int.toNat_natCast, Nat.zero_add, underlying30, is30, ag30, ce30, fa30x0, fa30x1, fa30x2, fa30x3, fa30x4, c11, e8, e9, ord3, co9]
            refine hset_spec (k := v1) (n := v2) (y := v3) hT5.one hT5.lo (by omega) (by omega) q1 fun s6 P1 hP1 hU1 => ?_
            have hn6 := hU1.next
            obtain ⟨g2, d2⟩ := hT5.two.other hU1 hT5.apart
            have c116 := (hU1.keep s3.next (by omega) (fun hc => by have := hO1e _ hc; omega)).trans c11
            simp -implicitDefEqProofs only [↓Zd, (Zp), if_true, if_false, ne_eq, implies_true, forall_const, Nat.reduceEqDiff, reduceIte, reduceCtorEq, Int.reduceEq, Int.reduceNeg, Int.reduceLE, Int.reduceLT, Nat.reduceAdd, Nat.reduceLeDiff, Int.reduceToNat, Nat.reduceMul, Nat.reduceBEq, okPart, Value.cells, cut, okCell, cld2, (HEx), vA, List.getElem?_cons_succ, List.getElem?_cons_zero, Int.toNat_natCast, Nat.zero_add, underlying30, is30, ag30, ce30, fa30x0, fa30x1, fa30x2, fa30x3, fa30x4, c116, e8, e9, ord3, co9]
            refine hset_spec (k := v1) (n := v2) (y := v3) g2 (by have := hT5.lo; omega) (by omega) (by omega) q1 fun s7 P2 hP2 hU2 => ?_
            rw [← hT.sim.setE]
            have hT7 := hT5.step hP1 hU1 hP2 hU2 (hT.sim.set _ _ _) (hT.sz.set _ hpsz)
            simp -implicitDefEqProofs only [↓Zd, (Zp), if_true, if_false, ne_eq, implies_true, forall_const, Nat.reduceEqDiff, reduceIte, reduceCtorEq, Int.reduceEq, Int.reduceNeg, Int.reduceLE, Int.reduceLT, Nat.reduceAdd, Nat.reduceLeDiff, Int.reduceToNat, Nat.reduceMul, Nat.reduceBEq, okPart, Value.cells, cut, okCell, cld2, (HEx), vA, List.getElem?_cons_succ, List.getElem?_cons_zero, Int.toNat_natCast, Nat.zero_add, underlying30, is30, ag30, ce30, fa30x0, fa30x1, fa30x2, fa30x3, fa30x4, e8, e9, ord3, decide_true]
            have hT8 : TwoAt s.next s s7 p1 p2 (setH H x1 x3 (v1, v2, v3)) (setH G x1 x3 (v1, v2, v3)) (32 + 3 * k + 3) P1 P2 := ⟨hT7.one.mono (by omega), hT7.two.mono (by omega), hT7.apart, hT7.lo, hT7.old, hT7.sim, hT7.sz⟩
            simp -implicitDefEqProofs only [↓Zd, (Zp), if_true, if_false, ne_eq, implies_true, forall_const, Nat.reduceEqDiff, reduceIte, reduceCtorEq, Int.reduceEq, Int.reduceNeg, Int.reduceLE, Int.reduceLT, Nat.reduceAdd, Nat.reduceLeDiff, Int.reduceToNat, Nat.reduceMul, Nat.reduceBEq, okPart, Value.cells, cut, okCell, cld2, (HEx), vA, List.getElem?_cons_succ, List.getElem?_cons_zero, Int.toNat_natCast, Nat.zero_add, underlying30, is30, ag30, ce30, fa30x0, fa30x1, fa30x2, fa30x3, fa30x4, e8, e9, co14]
            refine hdump_spec hT8.one (by omega) hT8.sz fun s8 hs8 => ?_
            simp -implicitDefEqProofs only [↓Zd, (Zp), if_true, if_false, ne_eq, implies_true, forall_const, Nat.reduceEqDiff, reduceIte, reduceCtorEq, Int.reduceEq, Int.reduceNeg, Int.reduceLE, Int.reduceLT, Nat.reduceAdd, Nat.reduceLeDiff, Int.reduceToNat, Nat.reduceMul, Nat.reduceBEq, okPart, Value.cells, cut, okCell, cld2, (HEx), vA, List.getElem?_cons_succ, List.getElem?_cons_zero, Int.toNat_natCast, Nat.zero_add, underlying30, is30, ag30, ce30, fa30x0, fa30x1, fa30x2, fa30x3, fa30x4, e8, e9, co14]
            refine hdump_spec (hT8.le hs8).two (by omega) (sim_sz hT8.sim hT8.sz) fun s9 hs9 => ?_
            rw [hT8.sim.dump]
            simp -implicitDefEqProofs only [↓Zd, (Zp), if_true, if_false, ne_eq, implies_true, forall_const, Nat.reduceEqDiff, reduceIte, reduceCtorEq, Int.reduceEq, Int.reduceNeg, Int.reduceLE, Int.reduceLT, Nat.reduceAdd, Nat.reduceLeDiff, Int.reduceToNat, Nat.reduceMul, Nat.reduceBEq, okPart, Value.cells, cut, okCell, cld2, (HEx), vA, List.getElem?_cons_succ, List.getElem?_cons_zero, Int.toNat_natCast, Nat.zero_add, underlying30, is30, ag30, ce30, fa30x0, fa30x1, fa30x2, fa30x3, fa30x4, e8, e9, e10, w1, decide_true]
            refine ⟨by repeat (first | exact hFx | refine Fix.upd (by decide) ?_), 61 - (k + 1), by omega, k + 1, _, _, P1, P2, rfl, by omega, rfl, (hT8.le hs8).le hs9⟩
          · by_cases d2 : x0 = 2
            · subst d2
              simp -implicitDefEqProofs only [↓Zd, (Zp), if_true, if_false, ne_eq, implies_true, forall_const, Nat.reduceEqDiff, reduceIte, reduceCtorEq, Int.reduceEq, Int.reduceNeg, Int.reduceLE, Int.reduceLT, Nat.reduceAdd, Nat.reduceLeDiff, Int.reduceToNat, Nat.reduceMul, Nat.reduceBEq, okPart, Value.cells, cut, okCell, cld2, (HEx), vA, List.getElem?_cons_succ, List.getElem?_cons_zero, Int.toNat_natCast, Nat.zero_add, underlying30, is30, ag30, ce30, fa30x0, fa30x1, fa30x2, fa30x3, fa30x4, c11, e8, e9, ord3, co10]
              refine hdel_spec hT5.one hT5.lo (by omega) (by omega) q1 fun s6 P1 hP1 hU1 => ?_
              have hn6 := hU1.next
              obtain ⟨g2, d2⟩ := hT5.two.other hU1 hT5.apart
              have c116 := (hU1.keep s3.next (by omega) (fun hc => by have := hO1e _ hc; omega)).trans c11
              simp -implicitDefEqProofs only [↓Zd, (Zp), if_true, if_false, ne_eq, implies_true, forall_const, Nat.reduceEqDiff, reduceIte, reduceCtorEq, Int.reduceEq, Int.reduceNeg, Int.reduceLE, Int.reduceLT, Nat.reduceAdd, Nat.reduceLeDiff, Int.reduceToNat, Nat.reduceMul, Nat.reduceBEq, okPart, Value.cells, cut, okCell, cld2, (HEx), vA, List.getElem?_cons_succ, List.getElem?_cons_zero, Int.toNat_natCast, Nat.zero_add, underlying30, is30, ag30, ce30, fa30x0, fa30x1, fa30x2, fa30x3, fa30x4, c116, e8, e9, ord3, co10]
              refine hdel_spec g2 (by have := hT5.lo; omega) (by omega) (by omega) q1 fun s7 P2 hP2 hU2 => ?_
              rw [← hT.sim.delB]
              have hT7 := hT5.step hP1 hU1 hP2 hU2 (hT.sim.del _ _) (hT.sz.del _ _)
              simp -implicitDefEqProofs only [↓Zd, (Zp), if_true, if_false, ne_eq, implies_true, forall_const, Nat.reduceEqDiff, reduceIte, reduceCtorEq, Int.reduceEq, Int.reduceNeg, Int.reduceLE, Int.reduceLT, Nat.reduceAdd, Nat.reduceLeDiff, Int.reduceToNat, Nat.reduceMul, Nat.reduceBEq, okPart, Value.cells, cut, okCell, cld2, (HEx), vA, List.getElem?_cons_succ, List.getElem?_cons_zero, Int.toNat_natCast, Nat.zero_add, underlying30, is30, ag30, ce30, fa30x0, fa30x1, fa30x2, fa30x3, fa30x4, e8, e9, ord3, decide_true]
              have hT8 : TwoAt s.next s s7 p1 p2 (delH H x1 x3) (delH G x1 x3) (32 + 3 * k + 3) P1 P2 := ⟨hT7.one.mono (by omega), hT7.two.mono (by omega), hT7.apart, hT7.lo, hT7.old, hT7.sim, hT7.sz⟩
              simp -implicitDefEqProofs only [↓Zd, (Zp), if_true, if_false, ne_eq, implies_true, forall_const, Nat.reduceEqDiff, reduceIte, reduceCtorEq, Int.reduceEq, Int.reduceNeg, Int.reduceLE, Int.reduceLT, Nat.reduceAdd, Nat.reduceLeDiff, Int.reduceToNat, Nat.reduceMul, Nat.reduceBEq, okPart, Value.cells, cut, okCell, cld2, (HEx), vA, List.getElem?_cons_succ, List.getElem?_cons_zero, Int.toNat_natCast, Nat.zero_add, underlying30, is30, ag30, ce30, fa30x0, fa30x1, fa30x2, fa30x3, fa30x4, e8, e9, co14]
              refine hdump_spec hT8.one (by omega) hT8.sz fun s8 hs8 => ?_
              simp -implicitDefEqProofs only [↓Zd, (Zp), if_true, if_false, ne_eq, implies_true, forall_const, Nat.reduceEqDiff, reduceIte, reduceCtorEq, Int.reduceEq, Int.reduceNeg, Int.reduceLE, Int.reduceLT, Nat.reduceAdd, Nat.reduceLeDiff, Int.reduceToNat, Nat.reduceMul, Nat.reduceBEq, okPart, Value.cells, cut, okCell, cld2, (HEx), vA, List.getElem?_cons_succ, List.getElem?_cons_zero, Int.toNat_natCast, Nat.zero_add, underlying30, is30, ag30, ce30, fa30x0, fa30x1, fa30x2, fa30x3, fa30x4, e8, e9, co14]
              refine hdump_spec (hT8.le hs8).two (by omega) (sim_sz hT8.sim hT8.sz) fun s9 hs9 => ?_
              rw [hT8.sim.dump]
              simp -implicitDefEqProofs only [↓Zd, (Zp), if_true, if_false, ne_eq, implies_true, forall_const, Nat.reduceEqDiff, reduceIte, reduceCtorEq, Int.reduceEq, Int.reduceNeg, Int.reduceLE, Int.reduceLT, Nat.reduceAdd, Nat.reduceLeDiff, Int.reduceToNat, Nat.reduceMul, Nat.reduceBEq, okPart, Value.cells, cut, okCell, cld2, (HEx), vA, List.getElem?_cons_succ, List.getElem?_cons_zero, Int.toNat_natCast, Nat.zero_add, underlying30, is30, ag30, ce30, fa30x0, fa30x1, fa30x2, fa30x3, fa30x4, e8, e9, e10, w1, decide_true]
              refine ⟨by repeat (first | exact hFx | refine Fix.upd (by decide) ?_), 61 - (k + 1), by omega, k + 1, _, _, P1, P2, rfl, by omega, rfl, (hT8.le hs8).le hs9⟩
            · by_cases d3 : x0 = 3
              · subst d3
                simp -implicitDefEqProofs only [↓Zd, (Zp), if_true, if_false, ne_eq, implies_true, forall_const, Nat.reduceEqDiff, reduceIte, reduceCtorEq, Int.reduceEq, Int.reduceNeg, Int.reduceLE, Int.reduceLT, Nat.reduceAdd, Nat.reduceLeDiff, Int.reduceToNat, Nat.reduceMul, Nat.reduceBEq, okPart, Value.cells, cut, okCell, cld2, (HEx), vA, List.getElem?_cons_succ, List.getElem?_cons_zero, Int.toNat_natCast, Nat.zero_add, underlying30, is30, ag30, ce30, fa30x0, fa30x1, fa30x2, fa30x3, fa30x4, c11, e8, e9, ord3, co11]
                refine hsetproto_spec hT5.one hT5.lo (by omega) (by omega) q1 q2 fun s6 P1 hP1 hU1 => ?_
                have hn6 := hU1.next
                obtain ⟨g2, d2⟩ := hT5.two.other hU1 hT5.apart
                have c116 := (hU1.keep s3.next (by omega) (fun hc => by have := hO1e _ hc; omega)).trans c11
                simp -implicitDefEqProofs only [↓Zd, (Zp), if_true, if_false, ne_eq, implies_true, forall_const, Nat.reduceEqDiff, reduceIte, reduceCtorEq, Int.reduceEq, Int.reduceNeg, Int.reduceLE, Int.reduceLT, Nat.reduceAdd, Nat.reduceLeDiff, Int.reduceToNat, Nat.reduceMul, Nat.reduceBEq, okPart, Value.cells, cut, okCell, cld2, (HEx), vA, List.getElem?_cons_succ, List.getElem?_cons_zero, Int.toNat_natCast, Nat.zero_add, underlying30, is30, ag30, ce30, fa30x0, fa30x1, fa30x2, fa30x3, fa30x4, c116, e8, e9, ord3, co11]
                refine hsetproto_spec g2 (by have := hT5.lo; omega) (by omega) (by omega) q1 q2 fun s7 P2 hP2 hU2 => ?_
                rw [← hT.sim.protoE]
                have hT7 := hT5.step hP1 hU1 hP2 hU2 (hT.sim.protoH _ _) (hT.sz.protoH _ _)
                simp -implicitDefEqProofs only [↓Zd, (Zp), if_true, if_false, ne_eq, implies_true, forall_const, Nat.reduceEqDiff, reduceIte, reduceCtorEq, Int.reduceEq, Int.reduceNeg, Int.reduceLE, Int.reduceLT, Nat.reduceAdd, Nat.reduceLeDiff, Int.reduceToNat, Nat.reduceMul, Nat.reduceBEq, okPart, Value.cells, cut, okCell, cld2, (HEx), vA, List.getElem?_cons_succ, List.getElem?_cons_zero, Int.toNat_natCast, Nat.zero_add, underlying30, is30, ag30, ce30, fa30x0, fa30x1, fa30x2, fa30x3, fa30x4, e8, e9, ord3, decide_true]
                have hT8 : TwoAt s.next s s7 p1 p2 (protoH H x1 x2) (protoH G x1 x2) (32 + 3 * k + 3) P1 P2 := ⟨hT7.one.mono (by omega), hT7.two.mono (by omega), hT7.apart, hT7.lo, hT7.old, hT7.sim, hT7.sz⟩
                simp -implicitDefEqProofs only [↓Zd, (Zp), if_true, if_false, ne_eq, implies_true, forall_const, Nat.reduceEqDiff, reduceIte, reduceCtorEq, Int.reduceEq, Int.reduceNeg, Int.reduceLE, Int.reduceLT, Nat.reduceAdd, Nat.reduceLeDiff, Int.reduceToNat, Nat.reduceMul, Nat.reduceBEq, okPart, Value.cells, cut, okCell, cld2, (HEx), vA, List.getElem?_cons_succ, List.getElem?_cons_zero, Int.toNat_natCast, Nat.zero_add, underlying30, is30, ag30, ce30, fa30x0, fa30x1, fa30x2, fa30x3, fa30x4, e8, e9, co14]
                refine hdump_spec hT8.one (by omega) hT8.sz fun s8 hs8 => ?_
                simp -implicitDefEqProofs only [↓Zd, (Zp), if_true, if_false, ne_eq, implies_true, forall_const, Nat.reduceEqDiff, reduceIte, reduceCtorEq, Int.reduceEq, Int.reduceNeg, Int.reduceLE, Int.reduceLT, Nat.reduceAdd, Nat.reduceLeDiff, Int.reduceToNat, Nat.reduceMul, Nat.reduceBEq, okPart, Value.cells, cut, okCell, cld2, (HEx), vA, List.getElem?_cons_succ, List.getElem?_cons_zero, Int.toNat_natCast, Nat.zero_add, underlying30, is30, ag30, ce30, fa30x0, fa30x1, fa30x2, fa30x3, fa30x4, e8, e9, co14]
                refine hdump_spec (hT8.le hs8).two (by omega) (sim_sz hT8.sim hT8.sz) fun s9 hs9 => ?_
                rw [hT8.sim.dump]
                simp -implicitDefEqProofs only [↓Zd, (Zp), if_true, if_false, ne_eq, implies_true, forall_const, Nat.reduceEqDiff, reduceIte, reduceCtorEq, Int.reduceEq, Int.reduceNeg, Int.reduceLE, Int.reduceLT, Nat.reduceAdd, Nat.reduceLeDiff, Int.reduceToNat, Nat.reduceMul, Nat.reduceBEq, okPart, Value.cells, cut, okCell, cld2, (HEx), vA, List.getElem?_cons_succ, List.getElem?_cons_zero, Int.toNat_natCast, Nat.zero_add, underlying30, is30, ag30, ce30, fa30x0, fa30x1, fa30x2, fa30x3, fa30x4, e8, e9, e10, w1, decide_true]
                refine ⟨by repeat (first | exact hFx | refine Fix.upd (by decide) ?_), 61 - (k + 1), by omega, k + 1, _, _, P1, P2, rfl, by omega, rfl, (hT8.le hs8).le hs9⟩
              · obtain ⟨hp5, tg1, pf1, pn1, sl1, bs1, hi5⟩ := id hT5.one
                simp -implicitDefEqProofs only [↓Zd, (Zp), if_true, if_false, ne_eq, implies_true, forall_const, Nat.reduceEqDiff, reduceIte, reduceCtorEq, Int.reduceEq, Int.reduceNeg, Int.reduceLE, Int.reduceLT, Nat.reduceAdd, Nat.reduceLeDiff, Int.reduceToNat, Nat.reduceMul, Nat.reduceBEq, okPart, Value.cells, cut, okCell, cld2, (HEx), vA, List.getElem?_cons_succ, List.getElem?_cons_zero, Int.toNat_natCast, Nat.zero_add, underlying30, is30, ag30, ce30, fa30x0, fa30x1, fa30x2, fa30x3, fa30x4, d0, d1, d2, d3, c11, e8, e9, ord3, co12]
                refine hget_spec hi5 q1 fun s6 w hs6 hw => ?_
                have c116 := (hs6.2 s3.next (by omega)).trans c11
                have hT6 := hT5.le hs6
                have hn6 := hs6.1
                obtain ⟨hp6, tg2, pf2, pn2, sl2, bs2, hi6⟩ := id hT6.two
                simp -implicitDefEqProofs only [↓Zd, (Zp), if_true, if_false, ne_eq, implies_true, forall_const, Nat.reduceEqDiff, reduceIte, reduceCtorEq, Int.reduceEq, Int.reduceNeg, Int.reduceLE, Int.reduceLT, Nat.reduceAdd, Nat.reduceLeDiff, Int.reduceToNat, Nat.reduceMul, Nat.reduceBEq, okPart, Value.cells, cut, okCell, cld2, (HEx), vA, List.getElem?_cons_succ, List.getElem?_cons_zero, Int.toNat_natCast, Nat.zero_add, underlying30, is30, ag30, ce30, fa30x0, fa30x1, fa30x2, fa30x3, fa30x4, c116, e8, e9, ord3, co12]
                refine hget_spec hi6 q1 fun s7 w2 hs7 hw2 => ?_
                have := (hT.sim.get hw).one hw2
                subst this
                have hn7 := hs7.1
                have c117 := (hs7.2 s3.next (by omega)).trans c116
                have hT7 := hT6.le hs7
                obtain ⟨hp7, tg3, pf3, pn3, sl3, bs3, hi7⟩ := id hT7.one
                obtain ⟨hp8, tg4, pf4, pn4, sl4, bs4, hi8⟩ := id hT7.two
                obtain ⟨w1', w2', w3'⟩ := w
                simp only [vOf, vA]
                simp -implicitDefEqProofs only [↓Zd, (Zp), if_true, if_false, ne_eq, implies_true, forall_const, Nat.reduceEqDiff, reduceIte, reduceCtorEq, Int.reduceEq, Int.reduceNeg, Int.reduceLE, Int.reduceLT, Nat.reduceAdd, Nat.reduceLeDiff, Int.reduceToNat, Nat.reduceMul, Nat.reduceBEq, okPart, Value.cells, cut, okCell, cld2, (HEx), vA, List.getElem?_cons_succ, List.getElem?_cons_zero, Int.toNat_natCast, Nat.zero_add, underlying30, is30, ag30, ce30, fa30x0, fa30x1, fa30x2, fa30x3, fa30x4, c117, e8, e9, VeqSelf, ord3, co13]
                refine hepoch_spec hi7 q1 ?_
                simp -implicitDefEqProofs only [↓Zd, (Zp), if_true, if_false, ne_eq, implies_true, forall_const, Nat.reduceEqDiff, reduceIte, reduceCtorEq, Int.reduceEq, Int.reduceNeg, Int.reduceLE, Int.reduceLT, Nat.reduceAdd, Nat.reduceLeDiff, Int.reduceToNat, Nat.reduceMul, Nat.reduceBEq, okPart, Value.cells, cut, okCell, cld2, (HEx), vA, List.getElem?_cons_succ, List.getElem?_cons_zero, Int.toNat_natCast, Nat.zero_add, underlying30, is30, ag30, ce30, fa30x0, fa30x1, fa30x2, fa30x3, fa30x4, c117, e8, e9, ord3, co13]
                refine hepoch_spec hi8 q1 ?_
                rw [hT.sim.epoch]
                simp -implicitDefEqProofs only [↓Zd, (Zp), if_true, if_false, ne_eq, implies_true, forall_const, Nat.reduceEqDiff, reduceIte, reduceCtorEq, Int.reduceEq, Int.reduceNeg, Int.reduceLE, Int.reduceLT, Nat.reduceAdd, Nat.reduceLeDiff, Int.reduceToNat, Nat.reduceMul, Nat.reduceBEq, okPart, Value.cells, cut, okCell, cld2, (HEx), vA, List.getElem?_cons_succ, List.getElem?_cons_zero, Int.toNat_natCast, Nat.zero_add, underlying30, is30, ag30, ce30, fa30x0, fa30x1, fa30x2, fa30x3, fa30x4, e8, e9, ord3, decide_true]
                have hT8 : TwoAt s.next s s7 p1 p2 (H) (G) (32 + 3 * k + 3) O1 O2 := ⟨hT7.one.mono (by omega), hT7.two.mono (by omega), hT7.apart, hT7.lo, hT7.old, hT7.sim, hT7.sz⟩
                simp -implicitDefEqProofs only [↓Zd, (Zp), if_true, if_false, ne_eq, implies_true, forall_const, Nat.reduceEqDiff, reduceIte, reduceCtorEq, Int.reduceEq, Int.reduceNeg, Int.reduceLE, Int.reduceLT, Nat.reduceAdd, Nat.reduceLeDiff, Int.reduceToNat, Nat.reduceMul, Nat.reduceBEq, okPart, Value.cells, cut, okCell, cld2, (HEx), vA, List.getElem?_cons_succ, List.getElem?_cons_zero, Int.toNat_natCast, Nat.zero_add, underlying30, is30, ag30, ce30, fa30x0, fa30x1, fa30x2, fa30x3, fa30x4, e8, e9, co14]
                refine hdump_spec hT8.one (by omega) hT8.sz fun s8 hs8 => ?_
                simp -implicitDefEqProofs only [↓Zd, (Zp), if_true, if_false, ne_eq, implies_true, forall_const, Nat.reduceEqDiff, reduceIte, reduceCtorEq, Int.reduceEq, Int.reduceNeg, Int.reduceLE, Int.reduceLT, Nat.reduceAdd, Nat.reduceLeDiff, Int.reduceToNat, Nat.reduceMul, Nat.reduceBEq, okPart, Value.cells, cut, okCell, cld2, (HEx), vA, List.getElem?_cons_succ, List.getElem?_cons_zero, Int.toNat_natCast, Nat.zero_add, underlying30, is30, ag30, ce30, fa30x0, fa30x1, fa30x2, fa30x3, fa30x4, e8, e9, co14]
                refine hdump_spec (hT8.le hs8).two (by omega) (sim_sz hT8.sim hT8.sz) fun s9 hs9 => ?_
                rw [hT8.sim.dump]
                simp -implicitDefEqProofs only [↓Zd, (Zp), if_true, if_false, ne_eq, implies_true, forall_const, Nat.reduceEqDiff, reduceIte, reduceCtorEq, Int.reduceEq, Int.reduceNeg, Int.reduceLE, Int.reduceLT, Nat.reduceAdd, Nat.reduceLeDiff, Int.reduceToNat, Nat.reduceMul, Nat.reduceBEq, okPart, Value.cells, cut, okCell, cld2, (HEx), vA, List.getElem?_cons_succ, List.getElem?_cons_zero, Int.toNat_natCast, Nat.zero_add, underlying30, is30, ag30, ce30, fa30x0, fa30x1, fa30x2, fa30x3, fa30x4, e8, e9, e10, w1, decide_true]
                refine ⟨by repeat (first | exact hFx | refine Fix.upd (by decide) ?_), 61 - (k + 1), by omega, k + 1, _, _, O1, O2, rfl, by omega, rfl, (hT8.le hs8).le hs9⟩
    · simp -implicitDefEqProofs only [↓Zd, (Zp), if_true, if_false, ne_eq, implies_true, forall_const, Nat.reduceEqDiff, reduceIte, reduceCtorEq, Int.reduceEq, Int.reduceNeg, Int.reduceLE, Int.reduceLT, Nat.reduceAdd, Nat.reduceLeDiff, Int.reduceToNat, Nat.reduceMul, Nat.reduceBEq, okPart, Value.cells, cut, okCell, cld2, (HEx), vA, List.getElem?_cons_succ, List.getElem?_cons_zero, Int.toNat_natCast, Nat.zero_add, underlying30, is30, ag30, ce30, fa30x0, fa30x1, fa30x2, fa30x3, fa30x4, underlying22, sz22, is22, ce22, ag22, ze22, e2, e10, k1, k2, co7]
      refine works12_spec ?_
      simp -implicitDefEqProofs only [↓Zd, (Zp), if_true, if_false, ne_eq, implies_true, forall_const, Nat.reduceEqDiff, reduceIte, reduceCtorEq, Int.reduceEq, Int.reduceNeg, Int.reduceLE, Int.reduceLT, Nat.reduceAdd, Nat.reduceLeDiff, Int.reduceToNat, Nat.reduceMul, Nat.reduceBEq, okPart, Value.cells, cut, okCell, cld2, (HEx), vA, List.getElem?_cons_succ, List.getElem?_cons_zero, Int.toNat_natCast, Nat.zero_add]
      exact hR _
  · simp -implicitDefEqProofs only [↓Zd, (Zp), if_true, if_false, ne_eq, implies_true, forall_const, Nat.reduceEqDiff, reduceIte, reduceCtorEq, Int.reduceEq, Int.reduceNeg, Int.reduceLE, Int.reduceLT, Nat.reduceAdd, Nat.reduceLeDiff, Int.reduceToNat, Nat.reduceMul, Nat.reduceBEq, okPart, Value.cells, cut, okCell, cld2, (HEx), vA, List.getElem?_cons_succ, List.getElem?_cons_zero, Int.toNat_natCast, Nat.zero_add, underlying30, is30, ag30, ce30, fa30x0, fa30x1, fa30x2, fa30x3, fa30x4, underlying22, sz22, is22, ce22, ag22, ze22, e2, e10, k1, co7]
    refine works12_spec ?_
    simp -implicitDefEqProofs only [↓Zd, (Zp), if_true, if_false, ne_eq, implies_true, forall_const, Nat.reduceEqDiff, reduceIte, reduceCtorEq, Int.reduceEq, Int.reduceNeg, Int.reduceLE, Int.reduceLT, Nat.reduceAdd, Nat.reduceLeDiff, Int.reduceToNat, Nat.reduceMul, Nat.reduceBEq, okPart, Value.cells, cut, okCell, cld2, (HEx), vA, List.getElem?_cons_succ, List.getElem?_cons_zero, Int.toNat_natCast, Nat.zero_add]
    exact hR _
end

theorem heapHides_walk {few many : Int} {A us : List ActD} {cp : Nat} {oi : Option BI} {ad : Nat → Option Addr} {v : Value} {w : World} (hf : (Lit.int .u8 few).wf = true) (hm : (Lit.int .u8 many).wf = true) (hr : ∀ ρ, QIn ρ w oi (us.flatMap actC)) (hv : ∀ (ρ : Ren) j, ρ j = oi → VRel ρ (.slice (ad j) A.length cp) v) (hok : ∀ a ∈ A, ActOk a) (ht : A = [] ∨ (ad = fun j => some ⟨j, 0, none⟩) ∧ ∀ k, k < A.length → us[k]? = A[k]?) (hl : A.length ≤ 9223372036854775807) :
    Calls Try.prog 3 #[.int .u8 few, .int .u8 many, v] w fun e w' => e = .returned (.bool true) ∧ Below w.heap.size w w' := by
  refine calls_q (L := [(30, us.flatMap actC)]) (B := [oi]) (args := #[.int .u8 few, .int .u8 many, .slice (ad 0) A.length cp]) rfl ?_ ⟨rfl, ?_⟩ (heapHides_spec ?_ ?_ ?_ hok hl fun _ => rfl)
  · intro j oi' r h1 h2
    match j, h1, h2 with
    | 0, h1, h2 => cases h1; cases h2; exact hr _
  · intro i hi
    match i, hi with
    | 0, _ => exact .int _ _
    | 1, _ => exact .int _ _
    | 2, _ => exact hv _ 0 rfl
  · simp only [Lit.wf, Bool.and_eq_true, decide_eq_true_eq] at hf; exact hf
  · simp only [Lit.wf, Bool.and_eq_true, decide_eq_true_eq] at hm; exact hm
  · rcases ht with ht | ⟨rfl, ht⟩
    · exact .inl ht
    · exact .inr ⟨0, us, rfl, Nat.zero_lt_one, rfl, ht⟩
end Go.Proofs.Try
