/- Chains of prototypes: the walk of the law on them. A lemma file: no statement of its own. -/
import Derived.Test.YtakgfhdaimeafaaGreatFwF
import Derived.Test.YtakgfhdaimeafaaGreatHC0
set_option linter.unusedSimpArgs false
set_option linter.unusedVariables false
set_option linter.unusedSectionVars false
namespace Go.Proofs.Tryz
open Go.Cs
open Go.RowKit (Below)
set_option maxRecDepth 100000
attribute [local irreducible] CCalls WLoop WScope CRound WRange

section
variable {M : Type} [Mem M] {w0 : World} {s : St M} {R : Value → St M → Prop}

set_option maxHeartbeats 16000000 in
theorem heapChains_spec {A : List ActD} {ad : Option Addr} {cp : Nat} {y : ByteArray} (hA : QRow 32 actC s ad A) (hok : ∀ a ∈ A, ActOk a) (hAl : A.length ≤ 9223372036854775807)
    (hR : ∀ s', R (.bool true) s') : CCalls Tryz.prog w0 3 #[.slice ad A.length cp, .string y] s R := by
  refine wfun2 hmix ok3 (l := [.slice ad A.length cp, .string y]) func3 rfl ntmps3 results3 (by simp) ?_
  have hbL : cbuild Tryz.prog 27 #[(0, .int .i64 20), (2, .int .i64 20)] = some (.agg #[.int .i64 20, .int .i64 0, .int .i64 20, .int .i64 0]) := by kernel_rfl
  by_cases hy : (300 : Int) < (y.size : Int)
  · simp -implicitDefEqProofs only [↓Zd, (Zp), if_true, if_false, ne_eq, implies_true, forall_const, Nat.reduceEqDiff, reduceIte, reduceCtorEq, Int.reduceEq, Int.reduceNeg, Int.reduceLE, Int.reduceLT, Nat.reduceAdd, Nat.reduceLeDiff, Int.reduceToNat, Nat.reduceMul, Nat.reduceBEq, okPart, Value.cells, cut, okCell, cld2, (HEx), (REx), vA, (ACx), hy, co7]
    refine works12_spec ?_
    simp -implicitDefEqProofs only [↓Zd, (Zp), if_true, if_false, ne_eq, implies_true, forall_const, Nat.reduceEqDiff, reduceIte, reduceCtorEq, Int.reduceEq, Int.reduceNeg, Int.reduceLE, Int.reduceLT, Nat.reduceAdd, Nat.reduceLeDiff, Int.reduceToNat, Nat.reduceMul, Nat.reduceBEq, okPart, Value.cells, cut, okCell, cld2, (HEx), (REx), vA]
    exact hR _
  simp -implicitDefEqProofs only [↓Zd, (Zp), if_true, if_false, ne_eq, implies_true, forall_const, Nat.reduceEqDiff, reduceIte, reduceCtorEq, Int.reduceEq, Int.reduceNeg, Int.reduceLE, Int.reduceLT, Nat.reduceAdd, Nat.reduceLeDiff, Int.reduceToNat, Nat.reduceMul, Nat.reduceBEq, okPart, Value.cells, cut, okCell, cld2, (HEx), (REx), vA, (ACx), hy, underlying27, sz27, is27, ce27, ag27, ze27, fa27x0, fa27x1, fa27x2, fa27x3, hbL, co8]
  refine hnew_spec fun s1 p hH1 hs1 => ?_
  have hn1 := hs1.1
  simp -implicitDefEqProofs only [↓Zd, (Zp), if_true, if_false, ne_eq, implies_true, forall_const, Nat.reduceEqDiff, reduceIte, reduceCtorEq, Int.reduceEq, Int.reduceNeg, Int.reduceLE, Int.reduceLT, Nat.reduceAdd, Nat.reduceLeDiff, Int.reduceToNat, Nat.reduceMul, Nat.reduceBEq, okPart, Value.cells, cut, okCell, cld2, (HEx), (REx), vA, (ACx)]
  refine wloop_fix hmix [6, 19, 20, 21, 22, 23, 24, 25, 26, 27, 28, 29, 30, 31, 32, 33, 34, 35, 36, 37, 38, 39, 40, 41, 42] (fun fuel env s3 => ∃ (k : Nat) (H : Hp) (O : Nat → Prop), fuel = 60 + 1 - k ∧ k ≤ 60 ∧ env 6 = .int .i64 (k : Int) ∧ HpAt s.next s3 p H (32 + 3 * k) O ∧ HSz 1000000 H ∧ TSz 1000000 H ∧ s.next ≤ s3.next ∧ ∀ c, c < s.next → s3.at' c = s.at' c) 61 ⟨0, _, _, rfl, by omega, rfl, hH1.mono (Nat.zero_le _), .new _ _ _ _, (fun x hx => by simp [newH] at hx), hn1, hs1.2⟩ ?_
  rintro fuel env s3 hFx ⟨k, H, O, rfl, hk, e6, hH, hsz, htz, hlo3, hold⟩
  have e0 : env 0 = .slice ad A.length cp := by rw [hFx 0 rfl]; rfl
  have e1 : env 1 = .string y := by rw [hFx 1 rfl]; rfl
  have e5 : env 5 = .pointer (some ⟨p, 0, none⟩) := by rw [hFx 5 rfl]; rfl
  rcases (show ((k : Int) < (A.length : Int) ∧ (k : Int) < 60) ∨ ¬ (k : Int) < (A.length : Int) ∨ ((k : Int) < (A.length : Int) ∧ ¬ (k : Int) < 60) by omega) with ⟨k1, k2⟩ | k1 | ⟨k1, k2⟩
  case inl =>
    have hkA : k < A.length := by omega
    have hx : A[k]? = some A[k] := by simp [hkA]
    have hxok := hok _ (List.mem_of_getElem? hx)
    generalize A[k] = x at hx hxok
    rcases hA with rfl | ⟨j, us, rfl, hj, hjb, hus⟩
    · simp at hkA
    have hux : us[k]? = some x := by rw [hus k hkA]; exact hx
    obtain ⟨c1, c2⟩ := acts_cut us k x hux
    have hjb3 : s3.at' j = some (.cells (us.flatMap actC) 32 false) := by rw [hold j hj]; exact hjb
    have hkk : (0 : Int) ≤ (k : Int) ∧ (k : Int) < (A.length : Int) := by omega
    have w1 : IntKind.i64.wrap ((k : Int) + 1) = ((k + 1 : Nat) : Int) := by rw [wrap_i64 (by omega)]; omega
    obtain ⟨x0, x1, x2, x3, v1, v2, v3⟩ := x
    have c2 : List.take 7 (List.drop (k * 7) (us.flatMap actC)) = [.int .i64 x0, .int .i64 x1, .int .i64 x2, .string x3, .int .i64 v1, .int .i64 v2, .string v3] := c2
    simp -implicitDefEqProofs only [↓Zd, (Zp), if_true, if_false, ne_eq, implies_true, forall_const, Nat.reduceEqDiff, reduceIte, reduceCtorEq, Int.reduceEq, Int.reduceNeg, Int.reduceLE, Int.reduceLT, Nat.reduceAdd, Nat.reduceLeDiff, Int.reduceToNat, Nat.reduceMul, Nat.reduceBEq, okPart, Value.cells, cut, okCell, cld2, (HEx), (REx), vA, (ACx), underlying22, sz22, is22, ce22, ag22, ze22, underlying32, sz32, is32, ce32, ag32, ze32, fa32x0, fa32x1, fa32x2, fa32x3, fa32x4, e0, e5, e6, k1, k2, hkk, hjb3, c1, c2, co9]
    refine long12_spec ?_
    by_cases hl : (decide ((300 : Int) < x3.size) || decide ((300 : Int) < v3.size)) = true
    · rw [hl]
      simp -implicitDefEqProofs only [↓Zd, (Zp), if_true, if_false, ne_eq, implies_true, forall_const, Nat.reduceEqDiff, reduceIte, reduceCtorEq, Int.reduceEq, Int.reduceNeg, Int.reduceLE, Int.reduceLT, Nat.reduceAdd, Nat.reduceLeDiff, Int.reduceToNat, Nat.reduceMul, Nat.reduceBEq, okPart, Value.cells, cut, okCell, cld2, (HEx), (REx), vA, (ACx), co7]
      refine works12_spec ?_
      simp -implicitDefEqProofs only [↓Zd, (Zp), if_true, if_false, ne_eq, implies_true, forall_const, Nat.reduceEqDiff, reduceIte, reduceCtorEq, Int.reduceEq, Int.reduceNeg, Int.reduceLE, Int.reduceLT, Nat.reduceAdd, Nat.reduceLeDiff, Int.reduceToNat, Nat.reduceMul, Nat.reduceBEq, okPart, Value.cells, cut, okCell, cld2, (HEx), (REx), vA]
      exact hR _
    rw [Bool.eq_false_iff.2 hl]
    have hl2 : x3.size ≤ 300 ∧ v3.size ≤ 300 := by
      simp only [Bool.or_eq_true, decide_eq_true_eq, not_or] at hl
      omega
    have l4 : s3.le (s3.new (.cells [.int .i64 x0, .int .i64 x1, .int .i64 x2, .string x3, .int .i64 v1, .int .i64 v2, .string v3] 32 true)) := St.le_new (St.le_refl _)
    generalize s3.new (.cells [.int .i64 x0, .int .i64 x1, .int .i64 x2, .string x3, .int .i64 v1, .int .i64 v2, .string v3] 32 true) = s4 at l4 ⊢
    have hn4 := l4.1
    have hbL0 : cbuild Tryz.prog 27 #[] = some (.agg #[.int .i64 0, .int .i64 0, .int .i64 0, .int .i64 0]) := by kernel_rfl
    have hjb4 : s4.at' j = some (.cells (us.flatMap actC) 32 false) := by rw [l4.2 j (by omega)]; exact hjb3
    simp -implicitDefEqProofs only [↓Zd, (Zp), if_true, if_false, ne_eq, implies_true, forall_const, Nat.reduceEqDiff, reduceIte, reduceCtorEq, Int.reduceEq, Int.reduceNeg, Int.reduceLE, Int.reduceLT, Nat.reduceAdd, Nat.reduceLeDiff, Int.reduceToNat, Nat.reduceMul, Nat.reduceBEq, okPart, Value.cells, cut, okCell, cld2, (HEx), (REx), vA, (ACx), underlying22, sz22, is22, ce22, ag22, ze22, underlying32, sz32, is32, ce32, ag32, ze32, fa32x0, fa32x1, fa32x2, fa32x3, fa32x4, underlying27, sz27, is27, ce27, ag27, ze27, fa27x0, fa27x1, fa27x2, fa27x3, e0, e5, e6, hbL0, hkk, hjb4, c1, c2, ord3, co11]
    refine rzNew rfl rfl rfl fun s5 r f hz l5 hr5 hf5 => ?_
    have hn5 := l5.1
    have hjb5 : s5.at' j = some (.cells (us.flatMap actC) 32 false) := by rw [l5.2 j (by omega)]; exact hjb4
    simp -implicitDefEqProofs only [↓Zd, (Zp), if_true, if_false, ne_eq, implies_true, forall_const, Nat.reduceEqDiff, reduceIte, reduceCtorEq, Int.reduceEq, Int.reduceNeg, Int.reduceLE, Int.reduceLT, Nat.reduceAdd, Nat.reduceLeDiff, Int.reduceToNat, Nat.reduceMul, Nat.reduceBEq, okPart, Value.cells, cut, okCell, cld2, (HEx), (REx), vA, (ACx), underlying22, sz22, is22, ce22, ag22, ze22, underlying32, sz32, is32, ce32, ag32, ze32, fa32x0, fa32x1, fa32x2, fa32x3, fa32x4, underlying27, sz27, is27, ce27, ag27, ze27, fa27x0, fa27x1, fa27x2, fa27x3, e0, e5, e6, hkk, hjb5, c1, c2, ord3, co10]
    have h5 := (hH.le l4).le l5
    have hsz5 := done_sz (x := ⟨x0, x1, x2, x3, v1, v2, v3⟩) hsz htz (by show x3.size ≤ _; omega) (by show v3.size ≤ _; omega) hxok
    refine hdone0_spec (x := ⟨x0, x1, x2, x3, v1, v2, v3⟩) h5 (by omega) hz ⟨fun hc => by have := (hH.own _ hc).2; omega, fun hc => by have := (hH.own _ hc).2; omega⟩ hxok (by omega) (by omega) fun s6 P b hP hU => ?_
    have hn6 := hU.next
    simp -implicitDefEqProofs only [↓Zd, (Zp), if_true, if_false, ne_eq, implies_true, forall_const, Nat.reduceEqDiff, reduceIte, reduceCtorEq, Int.reduceEq, Int.reduceNeg, Int.reduceLE, Int.reduceLT, Nat.reduceAdd, Nat.reduceLeDiff, Int.reduceToNat, Nat.reduceMul, Nat.reduceBEq, okPart, Value.cells, cut, okCell, cld2, (HEx), (REx), vA, (ACx), e0, e5, e6, w1, ord3]
    refine ⟨by repeat (first | exact hFx | refine Fix.upd (by decide) ?_), 60 + 1 - (k + 1), by omega, k + 1, _, P, rfl, by omega, rfl, hP, hsz5.1, hsz5.2, by omega, fun c hc => ?_⟩
    rw [hU.keep c (by omega) (fun hc2 => by have := (hH.own c hc2).1; omega), l5.2 c (by omega), l4.2 c (by omega)]
    exact hold c hc
  case' inr.inl => simp -implicitDefEqProofs only [↓Zd, (Zp), if_true, if_false, ne_eq, implies_true, forall_const, Nat.reduceEqDiff, reduceIte, reduceCtorEq, Int.reduceEq, Int.reduceNeg, Int.reduceLE, Int.reduceLT, Nat.reduceAdd, Nat.reduceLeDiff, Int.reduceToNat, Nat.reduceMul, Nat.reduceBEq, okPart, Value.cells, cut, okCell, cld2, (HEx), (REx), vA, (ACx), underlying22, sz22, is22, ce22, ag22, ze22, e0, e6, k1]
  case' inr.inr => simp -implicitDefEqProofs only [↓Zd, (Zp), if_true, if_false, ne_eq, implies_true, forall_const, Nat.reduceEqDiff, reduceIte, reduceCtorEq, Int.reduceEq, Int.reduceNeg, Int.reduceLE, Int.reduceLT, Nat.reduceAdd, Nat.reduceLeDiff, Int.reduceToNat, Nat.reduceMul, Nat.reduceBEq, okPart, Value.cells, cut, okCell, cld2, (HEx), (REx), vA, (ACx), underlying22, sz22, is22, ce22, ag22, ze22, e0, e6, k1, k2]
  all_goals
    obtain ⟨hpro, tg, pf, pn, sl, bs, hin⟩ := hH
    obtain ⟨d, hd, hdl⟩ := deep_few hin.ok
    have hlim := hin.ok.lim
    refine wloop_fix hmix [7, 8, 9, 10, 11, 12, 43, 44, 45, 46, 47, 48, 49, 50, 51, 52, 53, 54, 55, 56, 57, 58, 59, 60, 61, 62, 63, 64, 65, 66, 67, 68, 69, 70, 71, 72, 73, 74, 75, 76, 77, 78, 79, 80, 81, 82, 83, 84, 85, 86, 87, 88, 89, 90, 91, 92, 93, 94] (fun fuel env s4 => ∃ i : Nat, fuel = H.obs.length + 1 - i ∧ i ≤ H.obs.length ∧ env 7 = .int .i64 ((i + 1 : Nat) : Int) ∧ s3.le s4) (H.obs.length + 1) ⟨0, rfl, by omega, rfl, St.le_refl _⟩ ?_
    rintro fuel env2 s4 hFx2 ⟨i, rfl, hi, e7, hs4⟩
    have f5 : env2 5 = .pointer (some ⟨p, 0, none⟩) := by rw [hFx2 5 rfl]; simp only [upd_apply]; simpa using e5
    have f1 : env2 1 = .string y := by rw [hFx2 1 rfl]; simp only [upd_apply]; simpa using e1
    simp -implicitDefEqProofs only [↓Zd, (Zp), if_true, if_false, ne_eq, implies_true, forall_const, Nat.reduceEqDiff, reduceIte, reduceCtorEq, Int.reduceEq, Int.reduceNeg, Int.reduceLE, Int.reduceLT, Nat.reduceAdd, Nat.reduceLeDiff, Int.reduceToNat, Nat.reduceMul, Nat.reduceBEq, okPart, Value.cells, cut, okCell, cld2, (HEx), (REx), vA, (ACx), f5, e7, co12]
    refine hlen_spec (hin.le hs4) ?_
    by_cases hil : i < H.obs.length
    case neg =>
      have hnle : ¬ ((i + 1 : Nat) : Int) ≤ (H.obs.length : Int) := by omega
      simp -implicitDefEqProofs only [↓Zd, (Zp), if_true, if_false, ne_eq, implies_true, forall_const, Nat.reduceEqDiff, reduceIte, reduceCtorEq, Int.reduceEq, Int.reduceNeg, Int.reduceLE, Int.reduceLT, Nat.reduceAdd, Nat.reduceLeDiff, Int.reduceToNat, Nat.reduceMul, Nat.reduceBEq, okPart, Value.cells, cut, okCell, cld2, (HEx), (REx), vA, (ACx), hnle, co7]
      refine works12_spec ?_
      simp -implicitDefEqProofs only [↓Zd, (Zp), if_true, if_false, ne_eq, implies_true, forall_const, Nat.reduceEqDiff, reduceIte, reduceCtorEq, Int.reduceEq, Int.reduceNeg, Int.reduceLE, Int.reduceLT, Nat.reduceAdd, Nat.reduceLeDiff, Int.reduceToNat, Nat.reduceMul, Nat.reduceBEq, okPart, Value.cells, cut, okCell, cld2, (HEx), (REx), vA]
      exact hR _
    have hile : ((i + 1 : Nat) : Int) ≤ (H.obs.length : Int) := by omega
    obtain ⟨o, ho⟩ : ∃ o, H.obs[i]? = some o := ⟨H.obs[i], by simp [hil]⟩
    have hat : obAt H ((i + 1 : Nat) : Int) = some o := by rw [obAt_get]; exact ho
    have hpv : protoV H ((i + 1 : Nat) : Int) = (o.proto : Int) := by unfold protoV; rw [hat]
    have hpl : o.proto ≤ 200 := by rcases hd i o ho with h | ⟨h, _⟩ <;> omega
    have wi : IntKind.i64.wrap (((i + 1 : Nat) : Int) + 1) = ((i + 1 + 1 : Nat) : Int) := by rw [wrap_i64 (by omega)]; omega
    simp -implicitDefEqProofs only [↓Zd, (Zp), if_true, if_false, ne_eq, implies_true, forall_const, Nat.reduceEqDiff, reduceIte, reduceCtorEq, Int.reduceEq, Int.reduceNeg, Int.reduceLE, Int.reduceLT, Nat.reduceAdd, Nat.reduceLeDiff, Int.reduceToNat, Nat.reduceMul, Nat.reduceBEq, okPart, Value.cells, cut, okCell, cld2, (HEx), (REx), vA, (ACx), f5, e7, hile]
    refine wloop_fix hmix [8, 9, 50, 51, 52, 53, 54, 55, 56, 57, 58, 59, 60, 61, 62] (fun fuel env s5 => ∃ (k : Nat) (a : Int), fuel = H.obs.length - k ∧ k ≤ H.obs.length ∧ env 9 = .int .i64 (k : Int) ∧ env 8 = .int .i64 a ∧ s5 = s4 ∧ (a = 0 ∨ ∃ j : Nat, a = ((j + 1 : Nat) : Int) ∧ j < H.obs.length ∧ d (j + 1) + k < H.obs.length)) H.obs.length ⟨0, _, rfl, by omega, rfl, rfl, rfl, .inr ⟨i, rfl, hil, by have := hdl i hil; omega⟩⟩ ?_
    rintro fuel env3 s5 hFx3 ⟨k5, a, rfl, hk5, e9, e8, rfl, ha⟩
    have g5 : env3 5 = .pointer (some ⟨p, 0, none⟩) := by rw [hFx3 5 rfl]; simp only [upd_apply]; simpa using f5
    have g1 : env3 1 = .string y := by rw [hFx3 1 rfl]; simp only [upd_apply]; simpa using f1
    have g7 : env3 7 = .int .i64 ((i + 1 : Nat) : Int) := by rw [hFx3 7 rfl]; simp only [upd_apply]; simpa using e7
    have hi5 := hin.le hs4
    simp -implicitDefEqProofs only [↓Zd, (Zp), if_true, if_false, ne_eq, implies_true, forall_const, Nat.reduceEqDiff, reduceIte, reduceCtorEq, Int.reduceEq, Int.reduceNeg, Int.reduceLE, Int.reduceLT, Nat.reduceAdd, Nat.reduceLeDiff, Int.reduceToNat, Nat.reduceMul, Nat.reduceBEq, okPart, Value.cells, cut, okCell, cld2, (HEx), (REx), vA, (ACx), g5, e8, e9, co12]
    refine hlen_spec hi5 ?_
    have hk5l : (k5 : Int) ≤ (H.obs.length : Int) := by omega
    by_cases ha0 : a = 0
    case neg =>
      rcases ha with ha | ⟨j5, rfl, hj5, hdj⟩
      · exact absurd ha ha0
      have hob5 : H.obs[j5]? = some (H.obs[j5]) := List.getElem?_eq_getElem _
      have hpv5 : protoV H ((j5 + 1 : Nat) : Int) = ((H.obs[j5]).proto : Int) := by unfold protoV; rw [obAt_get, hob5]
      have wk : IntKind.i64.wrap ((k5 : Int) + 1) = ((k5 + 1 : Nat) : Int) := by rw [wrap_i64 (by omega)]; omega
      simp -implicitDefEqProofs only [↓Zd, (Zp), if_true, if_false, ne_eq, implies_true, forall_const, Nat.reduceEqDiff, reduceIte, reduceCtorEq, Int.reduceEq, Int.reduceNeg, Int.reduceLE, Int.reduceLT, Nat.reduceAdd, Nat.reduceLeDiff, Int.reduceToNat, Nat.reduceMul, Nat.reduceBEq, okPart, Value.cells, cut, okCell, cld2, (HEx), (REx), vA, (ACx), g5, e8, e9, hk5l, ha0, co13]
      refine hproto_spec hi5 (by omega) ?_
      simp -implicitDefEqProofs only [↓Zd, (Zp), if_true, if_false, ne_eq, implies_true, forall_const, Nat.reduceEqDiff, reduceIte, reduceCtorEq, Int.reduceEq, Int.reduceNeg, Int.reduceLE, Int.reduceLT, Nat.reduceAdd, Nat.reduceLeDiff, Int.reduceToNat, Nat.reduceMul, Nat.reduceBEq, okPart, Value.cells, cut, okCell, cld2, (HEx), (REx), vA, (ACx), e9, wk]
      refine ⟨by repeat (first | exact hFx3 | refine Fix.upd (by decide) ?_), H.obs.length - (k5 + 1), by omega, k5 + 1, _, rfl, by omega, rfl, rfl, ?_⟩
      rw [hpv5]
      rcases hd j5 _ hob5 with h | ⟨h1, h2⟩
      · exact .inl (by omega)
      · by_cases h0 : (H.obs[j5]).proto = 0
        · exact .inl (by omega)
        · refine .inr ⟨(H.obs[j5]).proto - 1, by omega, by omega, ?_⟩
          rw [show (H.obs[j5]).proto - 1 + 1 = (H.obs[j5]).proto by omega]; omega
    subst ha0
    simp -implicitDefEqProofs only [↓Zd, (Zp), if_true, if_false, ne_eq, implies_true, forall_const, Nat.reduceEqDiff, reduceIte, reduceCtorEq, Int.reduceEq, Int.reduceNeg, Int.reduceLE, Int.reduceLT, Nat.reduceAdd, Nat.reduceLeDiff, Int.reduceToNat, Nat.reduceMul, Nat.reduceBEq, okPart, Value.cells, cut, okCell, cld2, (HEx), (REx), vA, (ACx), g1, g5, g7, e8, e9, hk5l, co14]
    refine hown_spec (i := ((i + 1 : Nat) : Int)) hi5 (by omega) fun s6 hs6 => ?_
    rw [hat]
    simp only [Option.bind_some]
    have hle6 := St.le_trans hs4 hs6
    have hn6 := hs6.1
    cases hg : getP o.L y with
    | some v =>
      obtain ⟨u1, u2, u3⟩ := v
      simp only [gotV, vOf]
      have l7 : s6.le ((((s6.new (.cells [.int .i64 0, .int .i64 0, .string ⟨#[]⟩] 30 true)).put s6.next (.cells [.int .i64 u1, .int .i64 u2, .string u3] 30 true)).new (.cells [.int .i64 0, .int .i64 0, .string ⟨#[]⟩] 30 true)).put (s6.next + 1) (.cells [.int .i64 u1, .int .i64 u2, .string u3] 30 true)) := (by repeat (first | exact St.le_refl _ | assumption | refine St.le_new ?_ | refine St.le_put ?_ (by first | omega | (simp only [St.next_new, St.next_put, St.next_kill]; omega)) | refine St.le_trans ?_ (by assumption)))
      have c12 : ((((s6.new (.cells [.int .i64 0, .int .i64 0, .string ⟨#[]⟩] 30 true)).put s6.next (.cells [.int .i64 u1, .int .i64 u2, .string u3] 30 true)).new (.cells [.int .i64 0, .int .i64 0, .string ⟨#[]⟩] 30 true)).put (s6.next + 1) (.cells [.int .i64 u1, .int .i64 u2, .string u3] 30 true)).at' (s6.next + 1) = some (.cells [.int .i64 u1, .int .i64 u2, .string u3] 30 true) := by rw [St.at_put, if_pos rfl]
      have n7 : ((((s6.new (.cells [.int .i64 0, .int .i64 0, .string ⟨#[]⟩] 30 true)).put s6.next (.cells [.int .i64 u1, .int .i64 u2, .string u3] 30 true)).new (.cells [.int .i64 0, .int .i64 0, .string ⟨#[]⟩] 30 true)).put (s6.next + 1) (.cells [.int .i64 u1, .int .i64 u2, .string u3] 30 true)).next = s6.next + 2 := rfl
      simp -implicitDefEqProofs only [↓Zd, (Zp), if_true, if_false, ne_eq, implies_true, forall_const, Nat.reduceEqDiff, reduceIte, reduceCtorEq, Int.reduceEq, Int.reduceNeg, Int.reduceLE, Int.reduceLT, Nat.reduceAdd, Nat.reduceLeDiff, Int.reduceToNat, Nat.reduceMul, Nat.reduceBEq, okPart, Value.cells, cut, okCell, cld2, (HEx), (REx), vA, (ACx), g1, g5, g7, e8, ord3, co15]
      refine hget_spec (i := ((i + 1 : Nat) : Int)) (hin.le (St.le_trans hle6 l7)) (by omega) fun s8 w hs8 hw => ?_
      have := hw.one (.own hat hg)
      subst this
      have c128 := (hs8.2 _ (by rw [n7]; omega)).trans c12
      simp -implicitDefEqProofs only [↓Zd, (Zp), if_true, if_false, ne_eq, implies_true, forall_const, Nat.reduceEqDiff, reduceIte, reduceCtorEq, Int.reduceEq, Int.reduceNeg, Int.reduceLE, Int.reduceLT, Nat.reduceAdd, Nat.reduceLeDiff, Int.reduceToNat, Nat.reduceMul, Nat.reduceBEq, okPart, Value.cells, cut, okCell, cld2, (HEx), (REx), vA, (ACx), g1, g5, g7, e8, c128, VneSelf, vOf, wi, ord3]
      refine ⟨?_, H.obs.length + 1 - (i + 1), by omega, i + 1, rfl, by omega, rfl, by first | exact St.le_trans (St.le_trans hle6 l7) hs8 | exact St.le_trans (St.le_trans hle6 l8) hs9⟩
      repeat (first | exact (Fix.trans (by repeat (first | exact hFx2 | refine Fix.upd (by decide) ?_)) (Fix.sub hFx3 (by intro t ht; simp only [List.contains_cons, List.contains_nil, Bool.or_false, Bool.or_eq_false_iff] at ht ⊢; simp only [ht, and_self]))) | refine Fix.upd (by decide) ?_)
    | none =>
      simp only [gotV]
      have l7 : s6.le ((((s6.new (.cells [.int .i64 0, .int .i64 0, .string ⟨#[]⟩] 30 true)).put s6.next (.cells [.int .i64 0, .int .i64 0, .string ⟨#[]⟩] 30 true)).new (.cells [.int .i64 0, .int .i64 0, .string ⟨#[]⟩] 30 true)).put (s6.next + 1) (.cells [.int .i64 0, .int .i64 0, .string ⟨#[]⟩] 30 true)) := (by repeat (first | exact St.le_refl _ | assumption | refine St.le_new ?_ | refine St.le_put ?_ (by first | omega | (simp only [St.next_new, St.next_put, St.next_kill]; omega)) | refine St.le_trans ?_ (by assumption)))
      have c12 : ((((s6.new (.cells [.int .i64 0, .int .i64 0, .string ⟨#[]⟩] 30 true)).put s6.next (.cells [.int .i64 0, .int .i64 0, .string ⟨#[]⟩] 30 true)).new (.cells [.int .i64 0, .int .i64 0, .string ⟨#[]⟩] 30 true)).put (s6.next + 1) (.cells [.int .i64 0, .int .i64 0, .string ⟨#[]⟩] 30 true)).at' (s6.next + 1) = some (.cells [.int .i64 0, .int .i64 0, .string ⟨#[]⟩] 30 true) := by rw [St.at_put, if_pos rfl]
      have n7 : ((((s6.new (.cells [.int .i64 0, .int .i64 0, .string ⟨#[]⟩] 30 true)).put s6.next (.cells [.int .i64 0, .int .i64 0, .string ⟨#[]⟩] 30 true)).new (.cells [.int .i64 0, .int .i64 0, .string ⟨#[]⟩] 30 true)).put (s6.next + 1) (.cells [.int .i64 0, .int .i64 0, .string ⟨#[]⟩] 30 true)).next = s6.next + 2 := rfl
      have hi7 := hin.le (St.le_trans hle6 l7)
      simp -implicitDefEqProofs only [↓Zd, (Zp), if_true, if_false, ne_eq, implies_true, forall_const, Nat.reduceEqDiff, reduceIte, reduceCtorEq, Int.reduceEq, Int.reduceNeg, Int.reduceLE, Int.reduceLT, Nat.reduceAdd, Nat.reduceLeDiff, Int.reduceToNat, Nat.reduceMul, Nat.reduceBEq, okPart, Value.cells, cut, okCell, cld2, (HEx), (REx), vA, (ACx), g1, g5, g7, e8, co13]
      refine hproto_spec (i := ((i + 1 : Nat) : Int)) hi7 (by omega) ?_
      rw [hpv]
      by_cases hp0 : (0 : Int) < (o.proto : Int)
      · simp -implicitDefEqProofs only [↓Zd, (Zp), if_true, if_false, ne_eq, implies_true, forall_const, Nat.reduceEqDiff, reduceIte, reduceCtorEq, Int.reduceEq, Int.reduceNeg, Int.reduceLE, Int.reduceLT, Nat.reduceAdd, Nat.reduceLeDiff, Int.reduceToNat, Nat.reduceMul, Nat.reduceBEq, okPart, Value.cells, cut, okCell, cld2, (HEx), (REx), vA, (ACx), g1, g5, g7, e8, hp0, co13]
        refine hproto_spec (i := ((i + 1 : Nat) : Int)) hi7 (by omega) ?_
        rw [hpv]
        simp -implicitDefEqProofs only [↓Zd, (Zp), if_true, if_false, ne_eq, implies_true, forall_const, Nat.reduceEqDiff, reduceIte, reduceCtorEq, Int.reduceEq, Int.reduceNeg, Int.reduceLE, Int.reduceLT, Nat.reduceAdd, Nat.reduceLeDiff, Int.reduceToNat, Nat.reduceMul, Nat.reduceBEq, okPart, Value.cells, cut, okCell, cld2, (HEx), (REx), vA, (ACx), g1, g5, g7, e8, hp0, co15]
        refine hget_spec (i := (o.proto : Int)) hi7 (by omega) fun s8 w hs8 hw => ?_
        obtain ⟨u1, u2, u3⟩ := w
        have c128 := (hs8.2 _ (by rw [n7]; omega)).trans c12
        have n8 := hs8.1
        rw [n7] at n8
        have l8 : s6.le (s8.put (s6.next + 1) (.cells [.int .i64 u1, .int .i64 u2, .string u3] 30 true)) := St.le_put (St.le_trans l7 hs8) (by omega)
        simp -implicitDefEqProofs only [↓Zd, (Zp), if_true, if_false, ne_eq, implies_true, forall_const, Nat.reduceEqDiff, reduceIte, reduceCtorEq, Int.reduceEq, Int.reduceNeg, Int.reduceLE, Int.reduceLT, Nat.reduceAdd, Nat.reduceLeDiff, Int.reduceToNat, Nat.reduceMul, Nat.reduceBEq, okPart, Value.cells, cut, okCell, cld2, (HEx), (REx), vA, (ACx), g1, g5, g7, e8, c128, vOf, ord3, co15]
        refine hget_spec (i := ((i + 1 : Nat) : Int)) (hin.le (St.le_trans hle6 l8)) (by omega) fun s9 w2 hs9 hw2 => ?_
        have := hw2.one (.up hat hg hw)
        subst this
        have c129 : s9.at' (s6.next + 1) = some (.cells [.int .i64 u1, .int .i64 u2, .string u3] 30 true) := by
          rw [hs9.2 _ (by simp only [St.next_put]; omega), St.at_put, if_pos rfl]
        simp -implicitDefEqProofs only [↓Zd, (Zp), if_true, if_false, ne_eq, implies_true, forall_const, Nat.reduceEqDiff, reduceIte, reduceCtorEq, Int.reduceEq, Int.reduceNeg, Int.reduceLE, Int.reduceLT, Nat.reduceAdd, Nat.reduceLeDiff, Int.reduceToNat, Nat.reduceMul, Nat.reduceBEq, okPart, Value.cells, cut, okCell, cld2, (HEx), (REx), vA, (ACx), g1, g5, g7, e8, c129, VneSelf, vOf, wi, ord3]
        refine ⟨?_, H.obs.length + 1 - (i + 1), by omega, i + 1, rfl, by omega, rfl, by first | exact St.le_trans (St.le_trans hle6 l7) hs8 | exact St.le_trans (St.le_trans hle6 l8) hs9⟩
        repeat (first | exact (Fix.trans (by repeat (first | exact hFx2 | refine Fix.upd (by decide) ?_)) (Fix.sub hFx3 (by intro t ht; simp only [List.contains_cons, List.contains_nil, Bool.or_false, Bool.or_eq_false_iff] at ht ⊢; simp only [ht, and_self]))) | refine Fix.upd (by decide) ?_)
      · simp -implicitDefEqProofs only [↓Zd, (Zp), if_true, if_false, ne_eq, implies_true, forall_const, Nat.reduceEqDiff, reduceIte, reduceCtorEq, Int.reduceEq, Int.reduceNeg, Int.reduceLE, Int.reduceLT, Nat.reduceAdd, Nat.reduceLeDiff, Int.reduceToNat, Nat.reduceMul, Nat.reduceBEq, okPart, Value.cells, cut, okCell, cld2, (HEx), (REx), vA, (ACx), g1, g5, g7, e8, hp0, ord3, co15]
        refine hget_spec (i := ((i + 1 : Nat) : Int)) hi7 (by omega) fun s8 w hs8 hw => ?_
        have hpz : (o.proto : Int) = 0 := by omega
        have := hw.one (.up hat hg (by rw [hpz]; exact .none (obAt_none.2 (by omega))))
        subst this
        have c128 := (hs8.2 _ (by rw [n7]; omega)).trans c12
        simp -implicitDefEqProofs only [↓Zd, (Zp), if_true, if_false, ne_eq, implies_true, forall_const, Nat.reduceEqDiff, reduceIte, reduceCtorEq, Int.reduceEq, Int.reduceNeg, Int.reduceLE, Int.reduceLT, Nat.reduceAdd, Nat.reduceLeDiff, Int.reduceToNat, Nat.reduceMul, Nat.reduceBEq, okPart, Value.cells, cut, okCell, cld2, (HEx), (REx), vA, (ACx), g1, g5, g7, e8, c128, VneSelf, vOf, wi, ord3]
        refine ⟨?_, H.obs.length + 1 - (i + 1), by omega, i + 1, rfl, by omega, rfl, by first | exact St.le_trans (St.le_trans hle6 l7) hs8 | exact St.le_trans (St.le_trans hle6 l8) hs9⟩
        repeat (first | exact (Fix.trans (by repeat (first | exact hFx2 | refine Fix.upd (by decide) ?_)) (Fix.sub hFx3 (by intro t ht; simp only [List.contains_cons, List.contains_nil, Bool.or_false, Bool.or_eq_false_iff] at ht ⊢; simp only [ht, and_self]))) | refine Fix.upd (by decide) ?_)
end

theorem heapChains_walk {A us : List ActD} {cp : Nat} {oi : Option BI} {ad : Nat → Option Addr} {v : Value} {y : ByteArray} {w : World} (hr : ∀ ρ, QIn ρ w oi (us.flatMap actC)) (hv : ∀ (ρ : Ren) j, ρ j = oi → VRel ρ (.slice (ad j) A.length cp) v) (hok : ∀ a ∈ A, ActOk a) (ht : A = [] ∨ (ad = fun j => some ⟨j, 0, none⟩) ∧ ∀ k, k < A.length → us[k]? = A[k]?) (hl : A.length ≤ 9223372036854775807) (_ : y.size ≤ maxLen) :
    Calls Tryz.prog 3 #[v, .string y] w fun e w' => e = .returned (.bool true) ∧ Below w.heap.size w w' := by
  refine calls_q (L := [(32, us.flatMap actC)]) (B := [oi]) (args := #[.slice (ad 0) A.length cp, .string y]) rfl ?_ ⟨rfl, ?_⟩ (heapChains_spec ?_ hok hl fun _ => rfl)
  · intro j oi' r h1 h2
    match j, h1, h2 with
    | 0, h1, h2 => cases h1; cases h2; exact hr _
  · intro i hi
    match i, hi with
    | 0, _ => exact hv _ 0 rfl
    | 1, _ => exact .string _
  · rcases ht with ht | ⟨rfl, ht⟩
    · exact .inl ht
    · exact .inr ⟨0, us, rfl, Nat.zero_lt_one, rfl, ht⟩
end Go.Proofs.Tryz
